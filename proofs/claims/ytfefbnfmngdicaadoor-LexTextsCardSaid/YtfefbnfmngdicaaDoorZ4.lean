/- LexTexts: the printed law comes to true. -/
import Derived.Test.YtfefbnfmngdicaaDoorZ1
import Derived.Test.YtfefbnfmngdicaaDoorY2
import Derived.Test.YtfefbnfmngdicaaDoorPY6
import Derived.Lib.ItoaLen
namespace Go.Proofs.YtfefbnfmngdicaaDoor.PX
set_option linter.unusedVariables false
set_option linter.unusedSimpArgs false
open Go.RowKit Go.Proofs.YtfefbnfmngdicaaDoorW.PrintWords

theorem rd0 (x : S43) (l : List S43) : rd_T43 (x :: l) 0 = x := rfl
theorem len2 (x y : S43) : (([x, y] : List S43).length : Int) = 2 := rfl
theorem len3 (x y z : S43) : (([x, y, z] : List S43).length : Int) = 3 := rfl
theorem rd1 (x y : S43) (l : List S43) : rd_T43 (x :: y :: l) 1 = y := rfl
theorem skp_quo (l : List UInt8) : skp (quo l) = quo l := skp_other 34 _ (by decide) (by decide)
theorem lex_quoted (s : ByteArray) (hs : s.size ≤ 300) : lex_Lex.f ⟨(quo s.data.toList).toArray⟩ = if s.size ≤ 200 then some ([⟨2, s, 0, 1⟩, ⟨5, bs [], 0, 1⟩], 0, 0) else some ([], 11, 1) := by
  have hl : s.data.toList.length = s.size := sz_toList s
  have hq := quoF_len s.data.toList
  have hql : (quo s.data.toList).length ≤ 1202 := by
    unfold quo
    rw [List.length_append, List.length_cons, List.length_singleton]
    omega
  have hz : (⟨(quo s.data.toList).toArray⟩ : ByteArray).size ≤ 8000 := by
    rw [ByteArray.size, List.size_toArray]; omega
  have ht := tok_quo s.data.toList
  by_cases h : s.size ≤ 200
  · rw [if_pos (by omega)] at ht
    rw [if_pos h, lexF_ok _ (quo s.data.toList) rfl hz _ (lexN_one _ 1 (skp_quo _) 2 _ 0 ht (by decide))]
    rfl
  · rw [if_neg (by omega)] at ht
    rw [if_neg h, lexF_err _ (quo s.data.toList) rfl hz 11 1 (lexN_err _ 1 0 (by decide) 34 (s.data.toList.flatMap quoB ++ [34]) (skp_quo _) 11 (by have h2 := ht; rw [show quo s.data.toList = 34 :: (s.data.toList.flatMap quoB ++ [34]) from rfl] at h2; exact h2))]
theorem texts_neg (n : Nat) (h1 : 1 ≤ n) (h2 : n ≤ 9223372036854775807) : lexN (45 :: Lib.decDigits n) 1 0 = .ok [⟨3, bs [45], 0, 1⟩, ⟨1, bs (Lib.decDigits n), (n : Int), 1⟩, ⟨5, bs [], 0, 1⟩] := by
  obtain ⟨hw, hne, hp⟩ := wd_dec n h2
  have ht : tokF (45 :: Lib.decDigits n) = .ok (3, [45], 0, 1) := by
    unfold tokF
    simp only
    rw [if_neg (by decide), if_neg (by decide), if_neg (by decide)]
    have : opF opl (45 :: Lib.decDigits n) = some [45] := rfl
    rw [this]
    rfl
  rw [lexN_tok _ 1 0 (by decide) 45 (Lib.decDigits n) (skp_other 45 _ (by decide) (by decide)) 3 [45] 0 1 ht, if_neg (by decide)]
  show mapOk _ (lexN (Lib.decDigits n) 1 1) = _
  rw [lexN_sameC ((Lib.decDigits n).length + 1) _ 1 1 0 (by omega) (by have := Lib.itoa_length_le n (by omega) (by omega); rw [Lib.itoa_nonneg] at this; omega) (by have := Lib.itoa_length_le n (by omega) (by omega); rw [Lib.itoa_nonneg] at this; omega),
    lexN_one _ 1 (skp_pt _ hp) 1 _ n (tok_word _ hne hp 1 n hw) (by decide)]
  rfl
theorem dec_size (l : List UInt8) (n : Nat) (h : l.length ≤ n) : (⟨l.toArray⟩ : ByteArray).size ≤ n := by
  rw [ByteArray.size, List.size_toArray]; exact h
theorem texts_j1 (n : Int) (h0 : -9223372036854775808 ≤ n) (h1 : n ≤ 9223372036854775807) (k : Nat) : erratalaw17_LexTexts.j1 (k + 1) n true = some true := by
  have hd : text_Decimal.f n = some ⟨(Lib.itoa n).toArray⟩ := if_pos ⟨h0, h1⟩
  have hlen := Lib.itoa_length_le n h0 h1
  have hz : (⟨(Lib.itoa n).toArray⟩ : ByteArray).size ≤ 8000 := dec_size _ _ (by omega)
  simp only [erratalaw17_LexTexts.j1]
  rw [hd]
  simp only [Option.bind_some]
  by_cases hn : n < 0
  · by_cases hm : n = -9223372036854775808
    · rw [lexF _ _ rfl hz]
      simp only [Option.bind_some]
      rw [if_pos hn, if_pos trivial, if_pos hm]
    · obtain ⟨u, hu⟩ := Int.eq_ofNat_of_zero_le (show 0 ≤ -n by omega)
      obtain rfl : n = -(u : Int) := by omega
      have e : Lib.itoa (-(u : Int)) = 45 :: Lib.decDigits u := Lib.itoa_neg u (by omega)
      rw [lexF_ok _ _ rfl hz _ (by rw [e]; exact texts_neg u (by omega) (by omega))]
      simp only [Option.bind_some]
      rw [if_pos hn, if_pos trivial, if_neg hm, if_pos trivial, len3, if_pos rfl, if_pos (by decide), rd0, if_pos (by rw [Lib.toList_data]; rfl), if_pos (by decide), rd1, w64' (by omega) (by omega)]
      refine congrArg some (beq_iff_eq.2 ?_)
      show (u : Int) = - -(u : Int)
      omega
  · obtain ⟨u, rfl⟩ := Int.eq_ofNat_of_zero_le (show 0 ≤ n by omega)
    have e : Lib.itoa (u : Int) = Lib.decDigits u := Lib.itoa_nonneg u
    obtain ⟨hw, hne, hp⟩ := wd_dec u (by omega)
    rw [lexF_ok _ _ rfl hz _ (by rw [e]; exact lexN_one _ 1 (skp_pt _ hp) 1 _ u (tok_word _ hne hp 1 u hw) (by decide))]
    simp only [Option.bind_some]
    rw [if_neg hn, if_pos trivial, if_pos trivial, len2, if_pos rfl, if_pos (by decide), rd0, if_pos rfl]
    exact congrArg some (beq_self_eq_true _)
theorem texts_j0 (s : ByteArray) (n : Int) (hs : s.size ≤ 300) (h0 : -9223372036854775808 ≤ n) (h1 : n ≤ 9223372036854775807) (k : Nat) : erratalaw17_LexTexts.j0 (k + 2) s n true = some true := by
  simp only [erratalaw17_LexTexts.j0, shape_Name.f, Option.bind_some]
  cases hn : nameOk s.data.toList with
  | false =>
    rw [if_neg (by decide)]
    exact texts_j1 n h0 h1 k
  | true =>
    obtain ⟨hw, hne, hp, hl⟩ := wd_name _ hn
    rw [if_pos rfl, lexF_ok s _ rfl (by omega) _ (lexN_one _ 1 (skp_pt _ hp) 0 _ 0 (tok_word _ hne hp 0 0 hw) (by decide))]
    simp only [Option.bind_some]
    rw [if_pos trivial, len2, if_pos rfl, if_pos (by decide), rd0, bs_eq, if_neg (by simp)]
    exact texts_j1 n h0 h1 k
theorem LexTexts_ex (s : ByteArray) (n : Int) {p : Prop} (_ : p) (w1 : (Lit.int .i64 n).wf = true) : ∃ k, erratalaw17_LexTexts.f k s n = some true := by
  have hn : -9223372036854775808 ≤ n ∧ n ≤ 9223372036854775807 := by
    have h := w1
    simp [Lit.wf] at h
    have e1 : IntKind.i64.min = -9223372036854775808 := by rfl
    have e2 : IntKind.i64.max = 9223372036854775807 := by rfl
    omega
  refine ⟨10, ?_⟩
  unfold erratalaw17_LexTexts.f
  rw [small17 8]
  simp only [Option.bind_some]
  by_cases hs : (s.size : Int) > 300
  · rw [if_pos hs]
  · have hq : text_Quote.f s = some ⟨(quo s.data.toList).toArray⟩ := if_pos (by omega)
    rw [if_neg hs, hq]
    simp only [Option.bind_some]
    rw [lex_quoted s (by omega)]
    by_cases h2 : s.size ≤ 200
    · rw [if_pos h2]
      simp only [Option.bind_some]
      rw [if_neg (show ¬ (s.size : Int) > 200 by omega), if_pos trivial, len2, if_pos rfl, if_pos (by decide), rd0, if_neg (by simp)]
      exact texts_j0 s n (by omega) hn.1 hn.2 8
    · rw [if_neg h2]
      simp only [Option.bind_some]
      rw [if_pos (show (s.size : Int) > 200 by omega), if_pos trivial, if_pos trivial]
      exact texts_j0 s n (by omega) hn.1 hn.2 8
end Go.Proofs.YtfefbnfmngdicaaDoor.PX
