/- LexWhite: the printed law comes to true. -/
import Derived.Test.YtfefbnfmngdicaaDoorZ1
import Derived.Test.YtfefbnfmngdicaaDoorPY5
namespace Go.Proofs.YtfefbnfmngdicaaDoor.PX
set_option linter.unusedVariables false
set_option linter.unusedSimpArgs false
open Go.RowKit Go.Proofs.YtfefbnfmngdicaaDoorW.PrintWords

theorem bt_n (s : ByteArray) (i : Nat) (h : i < s.size) : bt s (i : Int) = (s[i].toNat : Int) := (bt_at s (i : Int) (by rw [Int.toNat_natCast]; exact h)).symm
def wB (j : Nat) : UInt8 := if j % 3 = 0 then 32 else if j % 3 = 1 then 9 else 13
/-- So many white bytes. -/
def wls : Nat → List UInt8
  | 0 => []
  | n + 1 => wls n ++ [wB n]
theorem wls_len : ∀ n, (wls n).length = n
  | 0 => rfl
  | n + 1 => by rw [wls, List.length_append, wls_len n]; rfl
theorem wB_white (j : Nat) : wB j = 32 ∨ wB j = 9 ∨ wB j = 13 := by
  unfold wB
  split
  · exact .inl rfl
  · split
    · exact .inr (.inl rfl)
    · exact .inr (.inr rfl)
theorem wls_white : ∀ n, ∀ c ∈ wls n, c = 32 ∨ c = 9 ∨ c = 13
  | 0, _, h => by cases h
  | n + 1, c, h => by
    rcases List.mem_append.1 h with h | h
    · exact wls_white n c h
    · rw [List.mem_singleton.1 h]; exact wB_white n
theorem wls_head : ∀ n, 1 ≤ n → ∃ t, wls n = 32 :: t
  | 0, h => absurd h (by decide)
  | 1, _ => ⟨[], rfl⟩
  | n + 2, _ => by
    obtain ⟨t, e⟩ := wls_head (n + 1) (by omega)
    rw [wls, e]
    exact ⟨t ++ [wB (n + 1)], rfl⟩
theorem skp_whites (s : List UInt8) : ∀ l : List UInt8, (∀ c ∈ l, c = 32 ∨ c = 9 ∨ c = 13) → skp (l ++ s) = skp s
  | [], _ => rfl
  | c :: l, h => by
    rw [List.cons_append, skp_white _ _ (h c List.mem_cons_self)]
    exact skp_whites s l (fun c hc => h c (List.mem_cons_of_mem _ hc))
theorem lfAt_none : ∀ l : List UInt8, (∀ c ∈ l, c ≠ 10) → lfAt l = l.length
  | [], _ => rfl
  | c :: l, h => by
    rw [lfAt_cons, if_neg (h c List.mem_cons_self), lfAt_none l (fun c hc => h c (List.mem_cons_of_mem _ hc)), List.length_cons]
theorem skp_comment (l : List UInt8) (h : ∀ c ∈ l, c ≠ 10) : skp (35 :: l) = [] := by
  rw [skp_hash, lfAt_none (35 :: l) (fun c hc => by rcases List.mem_cons.1 hc with rfl | hc; decide; exact h c hc), List.drop_of_length_le (Nat.le_refl _), skp_nil]
theorem white_lex (src com : List UInt8) (n : Nat) (hn : 1 ≤ n) (hc : ∀ c ∈ com, c ≠ 10) (us : List S43) (h : lexN src 1 0 = .ok us) : lexN (wls n ++ (src ++ (wls n ++ 35 :: com))) 1 0 = .ok us := by
  obtain ⟨t, e⟩ := wls_head n hn
  have hw := wls_white n
  have hs : skp (wls n ++ 35 :: com) = [] := by rw [skp_whites _ _ hw, skp_comment com hc]
  have hl : lfAt (wls n ++ 35 :: com) = (wls n ++ 35 :: com).length := lfAt_none _ (fun c hcc => by
    rcases List.mem_append.1 hcc with h | h
    · rcases hw c h with rfl | rfl | rfl <;> decide
    · rcases List.mem_cons.1 h with rfl | h
      · decide
      · exact hc c h)
  rw [lexN_skp _ (src ++ (wls n ++ 35 :: com)) 1 0 (skp_whites _ _ hw)]
  rw [e, List.cons_append] at hs hl ⊢
  exact lexN_tail (t ++ 35 :: com) hs hl (src.length + 1) src 1 0 us (by omega) h
theorem wstep (i : Nat) : ((⟨#[32, 9, 13]⟩ : ByteArray).extract (i % 3) (i % 3 + 1)).data.toList = [wB i] := by
  unfold wB
  have : i % 3 = 0 ∨ i % 3 = 1 ∨ i % 3 = 2 := by omega
  rcases this with h | h | h <;> rw [h] <;> rfl
theorem white_l1 (a c : ByteArray) (n : Nat) (hn : 1 ≤ n) (hn2 : n ≤ 100) (ha : a.size ≤ 2500) (hc : c.size ≤ 100) (hlf : ∀ x ∈ c.data.toList, x ≠ 10) :
    ∀ (j i k : Nat) (x9 : ByteArray), n - i ≤ j → j + 1 ≤ k → i ≤ n → x9.data.toList = wls i → erratalaw17_LexWhite.l1 k a c (n : Int) true x9 (i : Int) = some true := by
  intro j
  induction j with
  | zero =>
    intro i k x9 hj hk hi hx
    obtain ⟨k, rfl⟩ : ∃ m, k = m + 1 := ⟨k - 1, by omega⟩
    obtain rfl : i = n := by omega
    have hxs : x9.size = i := by rw [← sz_toList, hx, wls_len]
    have h35 : (⟨#[35]⟩ : ByteArray).size = 1 := rfl
    have s1 : (x9 ++ a).size = i + a.size := by rw [ByteArray.size_append, hxs]
    have s2 : ((x9 ++ a) ++ x9).size = i + a.size + i := by rw [ByteArray.size_append, s1, hxs]
    have s3 : (((x9 ++ a) ++ x9) ++ (⟨#[35]⟩ : ByteArray)).size = i + a.size + i + 1 := by rw [ByteArray.size_append, s2, h35]
    have s4 : ((((x9 ++ a) ++ x9) ++ (⟨#[35]⟩ : ByteArray)) ++ c).size = i + a.size + i + 1 + c.size := by rw [ByteArray.size_append, s3]
    have hL : ((((x9 ++ a) ++ x9) ++ (⟨#[35]⟩ : ByteArray)) ++ c).data.toList = wls i ++ (a.data.toList ++ (wls i ++ 35 :: c.data.toList)) := by
      rw [app_list, app_list, app_list, app_list, hx]
      simp only [List.append_assoc, List.cons_append, List.nil_append]
    simp only [erratalaw17_LexWhite.l1]
    rw [if_neg (by omega)]
    rcases ea : lexN a.data.toList 1 0 with ⟨e, q⟩ | us
    · have he := lexN_errline (a.data.toList.length + 1) _ _ _ _ _ (by omega) ea
      rw [lexF_err a _ rfl (by omega) e q ea]
      simp only [Option.bind_some]
      rw [if_neg (show ¬ e = 0 by omega)]
    · have hla : a.data.toList.length ≤ 2500 := by rw [sz_toList]; exact ha
      have hcount := lexN_count (a.data.toList.length + 1) _ _ _ us (by omega) ea
      have hlines := lexN_lines (a.data.toList.length + 1) _ _ _ us (by omega) ea
      rw [lexF_ok a _ rfl (by omega) us ea]
      simp only [Option.bind_some]
      rw [if_pos trivial, if_pos (show x9.size + a.size ≤ 9223372036854775807 by omega), if_pos (show (x9 ++ a).size + x9.size ≤ 9223372036854775807 by omega), if_pos (show ((x9 ++ a) ++ x9).size + 1 ≤ 9223372036854775807 by omega), if_pos (show (((x9 ++ a) ++ x9) ++ (⟨#[35]⟩ : ByteArray)).size + c.size ≤ 9223372036854775807 by omega),
        lexF_ok _ _ hL (by omega) us (white_lex _ _ i hn hlf us ea)]
      simp only [Option.bind_some]
      rw [if_pos trivial, if_pos trivial, same_eq us (by omega) (fun u hu => by have := hlines u hu; omega)]
      rfl
  | succ j ih =>
    intro i k x9 hj hk hi hx
    by_cases h : i < n
    · obtain ⟨k, rfl⟩ : ∃ m, k = m + 1 := ⟨k - 1, by omega⟩
      have hxs : x9.size = i := by rw [← sz_toList, hx, wls_len]
      have ht : Int.tmod (i : Int) 3 = ((i % 3 : Nat) : Int) := by rw [Int.tmod_eq_emod_of_nonneg (by omega)]; omega
      have hst := wstep i
      have hm : i % 3 < 3 := Nat.mod_lt _ (by decide)
      have hw := Aside0.mk (w64' (x := ((i % 3 : Nat) : Int) + 1) (by omega) (by omega))
      have hz : ((⟨#[32, 9, 13]⟩ : ByteArray).extract (i % 3) (i % 3 + 1)).size = 1 := by rw [← sz_toList, hst]; rfl
      have hi1 := Aside0.mk (w64' (x := (i : Int) + 1) (by omega) (by omega))
      simp only [erratalaw17_LexWhite.l1]
      rw [if_pos (by omega), ht, hw.out, if_pos (by omega), if_pos (by omega), if_pos (by omega), Int.toNat_natCast, show ((((i % 3 : Nat) : Int) + 1)).toNat = i % 3 + 1 by omega, if_pos (by omega), hi1.out]
      exact ih (i + 1) k _ (by omega) (by omega) (by omega) (by rw [app_list, hx, hst]; rfl)
    · exact ih i k x9 (by omega) (by omega) hi hx
theorem white_l0 (a c : ByteArray) (n : Nat) (hn : 1 ≤ n) (hn2 : n ≤ 100) (ha : a.size ≤ 2500) (hc : c.size ≤ 100) :
    ∀ (j i k : Nat), c.size - i ≤ j → j + 200 ≤ k → i ≤ c.size → (∀ x ∈ c.data.toList.take i, x ≠ 10) → erratalaw17_LexWhite.l0 k a c (n : Int) true (i : Int) = some true := by
  intro j
  induction j with
  | zero =>
    intro i k hj hk hi hx
    obtain ⟨k, rfl⟩ : ∃ m, k = m + 1 := ⟨k - 1, by omega⟩
    simp only [erratalaw17_LexWhite.l0]
    rw [if_neg (by omega)]
    rw [List.take_of_length_le (by rw [sz_toList]; omega)] at hx
    exact white_l1 a c n hn hn2 ha hc hx n 0 k ⟨#[]⟩ (by omega) (by omega) (by omega) rfl
  | succ j ih =>
    intro i k hj hk hi hx
    by_cases h : i < c.size
    · obtain ⟨k, rfl⟩ : ∃ m, k = m + 1 := ⟨k - 1, by omega⟩
      have hi1 := Aside0.mk (w64' (x := (i : Int) + 1) (by omega) (by omega))
      simp only [erratalaw17_LexWhite.l0]
      rw [if_pos (by omega), if_pos (by omega), bt_n c i h, hi1.out]
      by_cases h10 : ((c[i].toNat : Int)) = 10
      · rw [if_pos h10]
      · rw [if_neg h10]
        refine ih (i + 1) k (by omega) (by omega) (by omega) ?_
        rw [take_snoc c i h]
        intro x hxx
        rcases List.mem_append.1 hxx with hh | hh
        · exact hx x hh
        · rw [List.mem_singleton.1 hh]
          intro e
          rw [e] at h10
          exact h10 rfl
    · exact ih i k (by omega) (by omega) hi hx
theorem LexWhite_ex (a c : ByteArray) (n : Int) {p q r : Prop} (_ : p) (_ : q) (_ : r) : ∃ k, erratalaw17_LexWhite.f k a c n = some true := by
  refine ⟨1000, ?_⟩
  unfold erratalaw17_LexWhite.f
  rw [small17 998]
  simp only [Option.bind_some]
  by_cases ha : (a.size : Int) > 2500
  · rw [if_pos ha]
    simp only [erratalaw17_LexWhite.j0]
    rw [if_pos trivial]
  · rw [if_neg ha]
    by_cases hc : (c.size : Int) > 100
    · rw [if_pos hc]
      simp only [erratalaw17_LexWhite.j0]
      rw [if_pos trivial]
    · rw [if_neg hc]
      by_cases h1 : n < 1
      · rw [if_pos h1]
        simp only [erratalaw17_LexWhite.j0]
        rw [if_pos trivial]
      · rw [if_neg h1]
        by_cases h2 : n > 100
        · rw [decide_eq_true h2]
          simp only [erratalaw17_LexWhite.j0]
          rw [if_pos trivial]
        · rw [decide_eq_false h2]
          simp only [erratalaw17_LexWhite.j0]
          rw [if_neg (by decide)]
          obtain ⟨m, rfl⟩ := Int.eq_ofNat_of_zero_le (show 0 ≤ n by omega)
          exact white_l0 a c m (by omega) (by omega) (by omega) (by omega) c.size 0 999 (by omega) (by omega) (by omega) (fun x hx => by rw [List.take_zero] at hx; cases hx)
end Go.Proofs.YtfefbnfmngdicaaDoor.PX
