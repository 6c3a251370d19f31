/- The documented examples, as the laws of layer 2 check them: they come to true. -/
import Derived.Test.YtfefbnfmngdicaaDoorL1
import Derived.Test.YtfefbnfmngdicaaDoorPX16
namespace Go.Proofs.YtfefbnfmngdicaaDoor.PX
set_option linter.unusedVariables false
set_option linter.unusedSimpArgs false
open Go.RowKit Go.Proofs.YtfefbnfmngdicaaDoorW.PrintWords Go.Proofs.YtfefbnfmngdicaaDoorW.PrintLast Go.Proofs.YtfefbnfmngdicaaDoorW.PrintMore

theorem int_bad0 : text_Int.f (⟨#[45, 48]⟩ : ByteArray) = some (0, false) := by
  have h : Lib.parseIntB 64 [45, 48] = .ok 0 := by decide +kernel
  have e : Lib.itoa 0 = [48] := by unfold Lib.itoa; rw [if_neg (by decide)]; exact dec_small (by decide)
  unfold text_Int.f intOf64
  rw [if_pos (by decide)]
  simp only [h]
  rw [if_neg (by rw [e]; decide)]
theorem int_bad7 : text_Int.f (⟨#[48, 48, 55]⟩ : ByteArray) = some (0, false) := by
  have h : Lib.parseIntB 64 [48, 48, 55] = .ok 7 := by decide +kernel
  have e : Lib.itoa 7 = [55] := by unfold Lib.itoa; rw [if_neg (by decide)]; exact dec_small (by decide)
  unfold text_Int.f intOf64
  rw [if_pos (by decide)]
  simp only [h]
  rw [if_neg (by rw [e]; decide)]
theorem int_least : text_Int.f (⟨#[45, 57, 50, 50, 51, 51, 55, 50, 48, 51, 54, 56, 53, 52, 55, 55, 53, 56, 48, 56]⟩ : ByteArray) = some (-9223372036854775808, true) := by
  have h : Lib.parseIntB 64 [45, 57, 50, 50, 51, 51, 55, 50, 48, 51, 54, 56, 53, 52, 55, 55, 53, 56, 48, 56] = .ok (-9223372036854775808) := by decide +kernel
  have e : Lib.itoa (-9223372036854775808) = [45, 57, 50, 50, 51, 51, 55, 50, 48, 51, 54, 56, 53, 52, 55, 55, 53, 56, 48, 56] := by
    unfold Lib.itoa
    rw [if_pos (by decide)]
    simp [dec_big, dec_small]
  unfold text_Int.f intOf64
  rw [if_pos (by decide)]
  simp only [h]
  rw [if_pos e]
theorem lines_ex : text_Lines.f (⟨#[97, 10, 10, 98]⟩ : ByteArray) = some [⟨#[97]⟩, ⟨#[]⟩, ⟨#[98]⟩] := by decide +kernel
theorem fields_ex : text_Fields.f (⟨#[32, 97, 32, 32, 98, 10]⟩ : ByteArray) = some [⟨#[97]⟩, ⟨#[98]⟩] := by decide +kernel
theorem quote_ex : text_Quote.f (⟨#[97, 34, 10, 200]⟩ : ByteArray) = some ⟨#[34, 97, 92, 34, 92, 110, 92, 120, 99, 56, 34]⟩ := by decide +kernel
theorem pat_ex1 : text_Pattern.f (⟨#[97, 42, 91, 33, 120, 45, 122, 93, 63]⟩ : ByteArray) (⟨#[97, 98, 99, 100]⟩ : ByteArray) = some true := by decide +kernel
theorem pat_ex2 : text_Pattern.f (⟨#[91, 93, 93]⟩ : ByteArray) (⟨#[93]⟩ : ByteArray) = some true := by decide +kernel
theorem pat_ex3 : text_Pattern.f (⟨#[91, 97]⟩ : ByteArray) (⟨#[91, 97]⟩ : ByteArray) = some true := by decide +kernel
theorem pat_ex4 : text_Pattern.f (⟨#[92, 42]⟩ : ByteArray) (⟨#[42]⟩ : ByteArray) = some true := by decide +kernel
theorem pat_ex5 : text_Pattern.f (⟨#[92, 42]⟩ : ByteArray) (⟨#[97, 98]⟩ : ByteArray) = some false := by decide +kernel

theorem small_true (k : Nat) (hk : 2 ≤ k) : erratalaw02_small.f k = some true := by
  obtain ⟨k, rfl⟩ : ∃ m, k = m + 2 := ⟨k - 2, by omega⟩
  unfold erratalaw02_small.f
  rw [int_bad0, int_bad7, int_least, lines_ex, fields_ex]
  simp only [Option.bind_some]
  rw [if_pos (by decide)]
  simp only [erratalaw02_small.j0]
  rw [if_neg (by decide), if_neg (by decide), if_neg (by decide), if_pos trivial, if_pos trivial, quote_ex]
  simp only [Option.bind_some]
  rw [if_pos (by decide +kernel), if_pos (by decide +kernel), if_pos (by decide +kernel), if_pos (by decide +kernel), if_pos (by decide +kernel), if_pos (by decide +kernel)]
  have e : ((rdOf ByteArray.empty [(⟨#[97]⟩ : ByteArray), ⟨#[98]⟩] 1).toList == ([98] : List UInt8)) = true := by decide +kernel
  rw [e]
  simp only [erratalaw02_small.j1]
  rw [if_pos trivial, pat_ex1, pat_ex2, pat_ex3, pat_ex4, pat_ex5]
  simp
end Go.Proofs.YtfefbnfmngdicaaDoor.PX
