/- The contracts of Unlines and Unquote in the printed functions' own form. -/
import Derived.Test.YtfefbnfmngdicaaDoorW3
namespace Go.Proofs.YtfefbnfmngdicaaDoor.PX
set_option linter.unusedVariables false
set_option linter.unusedSimpArgs false
open Go.RowKit Go.Proofs.YtfefbnfmngdicaaDoorW.PrintWords

def text_Unlines.f (l0 : List ByteArray) : Option ByteArray := if (unl l0).length ≤ 1000000 ∧ l0.length ≤ 1000000 then some ⟨(unl l0).toArray⟩ else none
theorem text_Unlines.calls (A0 : Option Addr) (c0 : Nat) (l0 : List ByteArray) (r : ByteArray) (w : World) (hr0 : Kd.C Kd.string w A0 l0.length l0) (hc0 : l0.length ≤ c0) (h : text_Unlines.f l0 = some r) :
    Calls Tryd.prog 16 #[.slice A0 l0.length c0] w fun e w' => e = .returned (.string r) ∧ Below w.heap.size w w' := by
  unfold text_Unlines.f at h
  split at h
  · rename_i hs
    exact (unlines_any A0 c0 l0 w hr0 hs.1 hs.2).mono fun e w' ⟨he, hw⟩ => ⟨by rw [he, ← Option.some.inj h], hw⟩
  · cases h

def unqR (s : ByteArray) : ByteArray × Bool := if quo (unq (mid s)) = s.data.toList then (⟨(unq (mid s)).toArray⟩, true) else (⟨#[]⟩, false)
theorem unqV_eq (s : ByteArray) : unqV s = .tuple #[.string (unqR s).1, .bool (unqR s).2] := by
  unfold unqV unqR
  split <;> rfl
def text_Unquote.f (a0 : ByteArray) : Option (ByteArray × Bool) := if a0.size ≤ 1000000 then some (unqR a0) else none
theorem text_Unquote.calls (a0 : ByteArray) (r1 : ByteArray) (r2 : Bool) (w : World) (h : text_Unquote.f a0 = some (r1, r2)) :
    Calls Tryd.prog 22 #[.string a0] w fun e w' => e = .returned (.tuple #[.string r1, .bool r2]) ∧ Below w.heap.size w w' := by
  unfold text_Unquote.f at h
  split at h
  · rename_i hs
    have h := Option.some.inj h
    refine (unquote_any a0 w hs).mono ?_
    rintro e w' ⟨he, hw⟩
    refine ⟨?_, hw⟩
    rw [he, unqV_eq, h]
  · cases h
end Go.Proofs.YtfefbnfmngdicaaDoor.PX
