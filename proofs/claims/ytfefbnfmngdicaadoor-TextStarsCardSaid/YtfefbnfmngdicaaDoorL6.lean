/- TextBack and TextPlain: the printed laws come to true. -/
import Derived.Test.YtfefbnfmngdicaaDoorL3
import Derived.Test.YtfefbnfmngdicaaDoorL4
import Derived.Test.YtfefbnfmngdicaaDoorL5
import Derived.Test.YtfefbnfmngdicaaDoorPX19
import Derived.Lib.ItoaLen
namespace Go.Proofs.YtfefbnfmngdicaaDoor.PX
set_option linter.unusedVariables false
set_option linter.unusedSimpArgs false
open Go.RowKit Go.Proofs.YtfefbnfmngdicaaDoorW.PrintWords Go.Proofs.YtfefbnfmngdicaaDoorW.PrintLast Go.Proofs.YtfefbnfmngdicaaDoorW.PrintMore

theorem mk_size (l : List UInt8) : (⟨l.toArray⟩ : ByteArray).size = l.length := by rw [ByteArray.size, List.size_toArray]
theorem int_dec (n : Int) (h0 : -9223372036854775808 ≤ n) (h1 : n ≤ 9223372036854775807) : text_Int.f ⟨(Lib.itoa n).toArray⟩ = some (n, true) := by
  have hl := Lib.itoa_length_le n h0 h1
  unfold text_Int.f
  rw [if_pos (by rw [mk_size]; omega)]
  unfold intOf64
  rw [parse_itoa n h0 h1]
  simp only
  rw [if_pos trivial]
theorem mid_mk (s : List UInt8) : mid ⟨(quo s).toArray⟩ = s.flatMap quoB := by
  unfold mid
  rw [mk_size]
  exact mid_quo s
theorem quo_len (l : List UInt8) : (quo l).length ≤ 4 * l.length + 2 := by
  have := quoF_len l
  unfold quo
  simp only [List.length_cons, List.length_append, List.length_nil]
  omega
theorem unq_quo (s : ByteArray) (hs : s.size ≤ 200000) : text_Unquote.f ⟨(quo s.data.toList).toArray⟩ = some (s, true) := by
  have hl := quo_len s.data.toList
  rw [sz_toList] at hl
  unfold text_Unquote.f
  rw [if_pos (by rw [mk_size]; omega)]
  unfold unqR
  rw [mid_mk, unq_flat, if_pos rfl, ba_mk]
theorem int_of (s : ByteArray) (hs : s.size ≤ 1000000) : ∃ c t, text_Int.f s = some (c, t) ∧ (t = false → c = 0) ∧ (t = true → Lib.itoa c = s.data.toList ∧ -9223372036854775808 ≤ c ∧ c ≤ 9223372036854775807) := by
  unfold text_Int.f
  rw [if_pos hs]
  unfold intOf64
  rcases hp : Lib.parseIntB 64 s.data.toList with v | _ | _
  · have hb := Lib.parseIntB_bounds hp
    by_cases he : Lib.itoa v = s.data.toList
    · exact ⟨v, true, by simp only; rw [if_pos he], by simp, fun _ => ⟨he, by simpa using hb.1, by have := hb.2; simp at this; omega⟩⟩
    · exact ⟨0, false, by simp only; rw [if_neg he], by simp, by simp⟩
  · exact ⟨0, false, rfl, by simp, by simp⟩
  · exact ⟨0, false, rfl, by simp, by simp⟩
theorem mid_le (s : ByteArray) : (unq (mid s)).length ≤ s.size := by
  have h1 : (unq (mid s)).length ≤ (mid s).length := unq_le _ _
  have := mid_len s
  omega
theorem unq_of (s : ByteArray) (hs : s.size ≤ 200000) : ∃ d t, text_Unquote.f s = some (d, t) ∧ (t = false → d.data.toList = []) ∧ (t = true → quo d.data.toList = s.data.toList) ∧ d.size ≤ s.size := by
  unfold text_Unquote.f
  rw [if_pos (by omega)]
  unfold unqR
  have := mid_le s
  by_cases h : quo (unq (mid s)) = s.data.toList
  · exact ⟨⟨(unq (mid s)).toArray⟩, true, by rw [if_pos h], by simp, fun _ => h, by rw [mk_size]; exact this⟩
  · exact ⟨⟨#[]⟩, false, by rw [if_neg h], fun _ => rfl, by simp, Nat.zero_le _⟩
theorem tl (s : ByteArray) : s.toList = s.data.toList := Lib.toList_data s

theorem TextBack_pure (a0 : Int) (a1 : ByteArray) (h0 : -9223372036854775808 ≤ a0) (h1 : a0 ≤ 9223372036854775807) : erratalaw02_TextBack.f 3 a0 a1 = some true := by
  unfold erratalaw02_TextBack.f
  rw [small_true 3 (by decide)]
  simp only [Option.bind_some]
  by_cases hs : a1.size ≤ 300
  · rw [if_neg (by omega)]
    have e1 : text_Decimal.f a0 = some ⟨(Lib.itoa a0).toArray⟩ := if_pos ⟨h0, h1⟩
    have e2 : text_Quote.f a1 = some ⟨(quo a1.data.toList).toArray⟩ := if_pos (by omega)
    obtain ⟨c, t, e3, hc0, hc1⟩ := int_of a1 (by omega)
    obtain ⟨d, u, e4, hd0, hd1, hd2⟩ := unq_of a1 (by omega)
    rw [e1]
    simp only [Option.bind_some]
    rw [int_dec a0 h0 h1, e2]
    simp only [Option.bind_some]
    rw [unq_quo a1 (by omega), e3, e4]
    simp only [Option.bind_some]
    have fin : erratalaw02_TextBack.j0 3 a0 a1 true a0 true a1 true c t d u false = some true := by
      simp only [erratalaw02_TextBack.j0]
      rw [if_neg (by decide), if_pos trivial, if_pos trivial, if_pos trivial, if_pos trivial, if_pos trivial]
      have e6 : u = true → (text_Quote.f d).bind (fun t395 => some (t395.toList == a1.toList)) = some true := by
        intro hu
        have e5 : text_Quote.f d = some ⟨(quo d.data.toList).toArray⟩ := if_pos (by omega)
        rw [e5]
        simp only [Option.bind_some]
        rw [tl, tl, hd1 hu, beq_self_eq_true]
      cases t with
      | true =>
        obtain ⟨g1, g2, g3⟩ := hc1 rfl
        have e5 : text_Decimal.f c = some ⟨(Lib.itoa c).toArray⟩ := if_pos ⟨g2, g3⟩
        rw [if_pos rfl, e5]
        simp only [Option.bind_some]
        rw [if_pos (by rw [tl, tl]; exact g1)]
        cases u with
        | true => rw [if_pos rfl]; exact e6 rfl
        | false => rw [if_neg (by decide)]
      | false =>
        rw [if_neg (by decide)]
        cases u with
        | true => rw [if_pos rfl]; exact e6 rfl
        | false => rw [if_neg (by decide)]
    have fin2 : u = false → (d.toList != ([] : List UInt8)) = false := fun hu => by rw [tl, hd0 hu]; rfl
    cases t with
    | true =>
      rw [if_pos rfl]
      cases u with
      | true => rw [if_pos rfl]; exact fin
      | false => rw [if_neg (by decide), fin2 rfl]; exact fin
    | false =>
      rw [if_neg (by decide), if_pos (hc0 rfl)]
      cases u with
      | true => rw [if_pos rfl]; exact fin
      | false => rw [if_neg (by decide), fin2 rfl]; exact fin
  · rw [if_pos (by omega)]
theorem TextBack_ex (a0 : Int) (a1 : ByteArray) (w0 : (Lit.int .i64 a0).wf = true) (w1 : a1.size ≤ 140737488351232) : ∃ k, erratalaw02_TextBack.f k a0 a1 = some true := by
  have h := w0
  simp [Lit.wf] at h
  have e1 : IntKind.i64.min = -9223372036854775808 := by rfl
  have e2 : IntKind.i64.max = 9223372036854775807 := by rfl
  rw [e1] at h
  exact ⟨3, TextBack_pure a0 a1 (by omega) (by omega)⟩
end Go.Proofs.YtfefbnfmngdicaaDoor.PX
