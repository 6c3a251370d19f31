/- The contracts of IndexByte, Quote and Escape in the printed functions' own form. -/
import Derived.Test.YtfefbnfmngdicaaDoorW1
namespace Go.Proofs.YtfefbnfmngdicaaDoor.PX
set_option linter.unusedVariables false
set_option linter.unusedSimpArgs false
open Go.RowKit Go.Proofs.YtfefbnfmngdicaaDoorW.PrintWords

def strings_IndexByte.f (a0 : ByteArray) (a1 : Int) : Option Int := some (Lib.indexByte a0.data.toList a1.toNat.toUInt8)
theorem strings_IndexByte.calls (a0 : ByteArray) (a1 : Int) (r : Int) (w : World) (h : strings_IndexByte.f a0 a1 = some r) :
    Calls Tryd.prog 52 #[.string a0, .int .u8 a1] w fun e w' => e = .returned (.int .i64 r) ∧ Drawn0 w w' :=
  (Tryd.strings_IndexByte a0 a1 w).mono fun e w' ⟨he, hw⟩ => ⟨by rw [he, ← Option.some.inj h], hw ▸ Drawn0.refl _⟩

def text_Escape.f (a0 : ByteArray) : Option ByteArray := if a0.size ≤ 1000000 then some ⟨(esc a0.data.toList).toArray⟩ else none
theorem text_Escape.calls (a0 : ByteArray) (r : ByteArray) (w : World) (h : text_Escape.f a0 = some r) :
    Calls Tryd.prog 19 #[.string a0] w fun e w' => e = .returned (.string r) ∧ Below w.heap.size w w' := by
  unfold text_Escape.f at h
  split at h
  · rename_i hs
    exact (escape_any a0 w hs).mono fun e w' ⟨he, hw⟩ => ⟨by rw [he, ← Option.some.inj h], hw⟩
  · cases h

def text_Quote.f (a0 : ByteArray) : Option ByteArray := if a0.size ≤ 1000000 then some ⟨(quo a0.data.toList).toArray⟩ else none
theorem text_Quote.calls (a0 : ByteArray) (r : ByteArray) (w : World) (h : text_Quote.f a0 = some r) :
    Calls Tryd.prog 23 #[.string a0] w fun e w' => e = .returned (.string r) ∧ Below w.heap.size w w' := by
  unfold text_Quote.f at h
  split at h
  · rename_i hs
    exact (quote_any a0 w hs).mono fun e w' ⟨he, hw⟩ => ⟨by rw [he, ← Option.some.inj h], hw⟩
  · cases h
end Go.Proofs.YtfefbnfmngdicaaDoor.PX
