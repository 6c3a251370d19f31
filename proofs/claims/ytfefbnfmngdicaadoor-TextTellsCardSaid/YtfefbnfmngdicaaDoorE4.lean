/- The contracts of Pattern and Plain in the printed functions' own form. -/
import Derived.Test.YtfefbnfmngdicaaDoorW4
import Derived.Test.YtfefbnfmngdicaaDoorW5
namespace Go.Proofs.YtfefbnfmngdicaaDoor.PX
set_option linter.unusedVariables false
set_option linter.unusedSimpArgs false
open Go.RowKit Go.Proofs.YtfefbnfmngdicaaDoorW.PrintWords

def text_Pattern.f (a0 a1 : ByteArray) : Option Bool := if a0.size ≤ 1000000 ∧ a1.size ≤ 1000000 then some (mt (pts a0.data.toList) a1.data.toList) else none
theorem text_Pattern.calls (a0 : ByteArray) (a1 : ByteArray) (r : Bool) (w : World) (h : text_Pattern.f a0 a1 = some r) :
    Calls Tryd.prog 18 #[.string a0, .string a1] w fun e w' => e = .returned (.bool r) ∧ Below w.heap.size w w' := by
  unfold text_Pattern.f at h
  split at h
  · rename_i hs
    exact (pattern_any a0 a1 w hs.1 hs.2).mono fun e w' ⟨he, hw⟩ => ⟨by rw [he, ← Option.some.inj h], hw⟩
  · cases h

def text_Plain.f (a0 : ByteArray) : Option ByteArray := if a0.size ≤ 1000000 then some ⟨(pln a0.data.toList).toArray⟩ else none
theorem text_Plain.calls (a0 : ByteArray) (r : ByteArray) (w : World) (h : text_Plain.f a0 = some r) :
    Calls Tryd.prog 25 #[.string a0] w fun e w' => e = .returned (.string r) ∧ Below w.heap.size w w' := by
  unfold text_Plain.f at h
  split at h
  · rename_i hs
    exact (plain_any a0 w hs).mono fun e w' ⟨he, hw⟩ => ⟨by rw [he, ← Option.some.inj h], hw⟩
  · cases h
end Go.Proofs.YtfefbnfmngdicaaDoor.PX
