/- The contract of shape.Name in the printed functions' own form. -/
import Derived.Test.YtfefbnfmngdicaaDoorX5
namespace Go.Proofs.YtfefbnfmngdicaaDoor.PX
set_option linter.unusedVariables false
set_option linter.unusedSimpArgs false
open Go.RowKit

def shape_Name.f (a0 : ByteArray) : Option Bool := some (nameOk a0.data.toList)
theorem shape_Name.calls (a0 : ByteArray) (r : Bool) (w : World) (h : shape_Name.f a0 = some r) :
    Calls Tryd.prog 29 #[.string a0] w fun e w' => e = .returned (.bool r) ∧ Below w.heap.size w w' := by
  have h := Option.some.inj h
  rw [← h]
  exact name_any a0 w
end Go.Proofs.YtfefbnfmngdicaaDoor.PX
