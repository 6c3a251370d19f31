/- TextLines: the printed law comes to true. -/
import Derived.Test.YtfefbnfmngdicaaDoorL9
import Derived.Test.YtfefbnfmngdicaaDoorL4
import Derived.Test.YtfefbnfmngdicaaDoorPX17
namespace Go.Proofs.YtfefbnfmngdicaaDoor.PX
set_option linter.unusedVariables false
set_option linter.unusedSimpArgs false
open Go.RowKit Go.Proofs.YtfefbnfmngdicaaDoorW.PrintWords Go.Proofs.YtfefbnfmngdicaaDoorW.PrintLast Go.Proofs.YtfefbnfmngdicaaDoorW.PrintMore

theorem rd_at (l : List ByteArray) (i : Nat) (h : i < l.length) : rdOf ByteArray.empty l (i : Int) = l[i] := by
  unfold rdOf
  rw [Int.toNat_natCast, List.getD_eq_getElem?_getD, List.getElem?_eq_getElem h, Option.getD_some]
theorem w64n (i : Nat) (h : i < 1000000000) : wrap64 ((i : Int) + 1) = ((i + 1 : Nat) : Int) := by
  rw [w64 (by omega) (by omega)]
  omega
theorem tl2 (s : ByteArray) : s.toList = s.data.toList := Lib.toList_data s
theorem same_self (l : List ByteArray) (hl : l.length ≤ 1000000) : ∀ (d i k : Nat), l.length - i ≤ d → d + 1 ≤ k → i ≤ l.length → errataref02_Same.l0 k l l (i : Int) = some true := by
  intro d
  induction d with
  | zero =>
    intro i k hd hk hi
    obtain ⟨k, rfl⟩ : ∃ m, k = m + 1 := ⟨k - 1, by omega⟩
    simp only [errataref02_Same.l0]
    rw [if_neg (by omega)]
  | succ d ih =>
    intro i k hd hk hi
    obtain ⟨k, rfl⟩ : ∃ m, k = m + 1 := ⟨k - 1, by omega⟩
    simp only [errataref02_Same.l0]
    by_cases h : i < l.length
    · rw [if_pos (by omega), if_pos (by omega), if_pos (by omega), if_pos trivial, w64n i (by omega)]
      exact ih (i + 1) k (by omega) (by omega) (by omega)
    · rw [if_neg (by omega)]
theorem same_refl (l : List ByteArray) (hl : l.length ≤ 1000000) (k : Nat) (hk : l.length + 1 ≤ k) : errataref02_Same.f k l l = some true := by
  unfold errataref02_Same.f
  rw [if_pos rfl]
  exact same_self l hl l.length 0 k (by omega) hk (by omega)

theorem ends_len_le (l : List (List UInt8)) : ∀ y ∈ l, y.length + 1 ≤ (ends l).length := by
  induction l with
  | nil => intro y hy; cases hy
  | cons x l ih =>
    intro y hy
    rw [ends_cons, List.length_append, List.length_cons]
    rcases List.mem_cons.1 hy with e | e
    · subst e; omega
    · have := ih y e; omega
theorem ends_count (l : List (List UInt8)) : l.length ≤ (ends l).length := by
  induction l with
  | nil => exact Nat.le_refl _
  | cons x l ih =>
    rw [ends_cons, List.length_append, List.length_cons, List.length_cons]
    omega
theorem fin10_len (l : List UInt8) : (fin10 l).length ≤ l.length + 1 := by
  unfold fin10
  split
  · omega
  · rw [List.length_append]; exact Nat.le_refl _
theorem flG_len0 : ∀ (l : List UInt8) (c : Option (List UInt8)), (flG c l).length ≤ l.length + c.toList.length
  | [], c => by simp [flG]
  | d :: l, c => by
    cases hd : whB d with
    | true =>
      have := flG_len0 l none
      rw [flG_white _ _ _ hd, List.length_append, List.length_cons]
      simp only [Option.toList_none, List.length_nil] at this
      omega
    | false =>
      have := flG_len0 l (some (c.getD [] ++ [d]))
      rw [flG_other _ _ _ hd, List.length_cons]
      simp only [Option.toList_some, List.length_cons, List.length_nil] at this
      omega
theorem flG_len (l : List UInt8) (c : Option (List UInt8)) : (flG c l).length ≤ l.length + 1 := by
  have := flG_len0 l c
  cases c with
  | none => simp only [Option.toList_none, List.length_nil] at this; omega
  | some x => simp only [Option.toList_some, List.length_cons, List.length_nil] at this; omega
theorem flG_each : ∀ (l : List UInt8) (c : Option (List UInt8)), ∀ y ∈ flG c l, y.length ≤ (c.getD []).length + l.length
  | [], c, y, hy => by
    cases c with
    | none => cases hy
    | some x =>
      have : y = x := by simpa [flG] using hy
      subst this
      exact Nat.le_refl _
  | d :: l, c, y, hy => by
    rw [List.length_cons]
    cases hd : whB d with
    | true =>
      rw [flG_white _ _ _ hd] at hy
      rcases List.mem_append.1 hy with e | e
      · cases c with
        | none => cases e
        | some x =>
          have : y = x := by simpa using e
          subst this
          show y.length ≤ y.length + _
          omega
      · have := flG_each l none y e
        simp only [Option.getD_none, List.length_nil] at this
        omega
    | false =>
      rw [flG_other _ _ _ hd] at hy
      have := flG_each l _ y hy
      rw [Option.getD_some, List.length_append] at this
      simp only [List.length_cons, List.length_nil] at this
      omega
theorem whB_ne (b : UInt8) (h : whB b = false) : b ≠ 32 ∧ b ≠ 9 ∧ b ≠ 10 := by
  refine ⟨?_, ?_, ?_⟩
  all_goals
    rintro rfl
    cases h
theorem unl_mk (A : List (List UInt8)) (hA : (ends A).length ≤ 1000000) (hl : A.length ≤ 1000000) : text_Unlines.f (A.map mk) = some (mk (ends A)) := by
  unfold text_Unlines.f
  rw [unl_ends, if_pos ⟨hA, by rw [List.length_map]; exact hl⟩]
  rfl

/-- The last loop: the fields' bytes. -/
theorem lines_l5 (x1 x10 : ByteArray) (x9 : List ByteArray) (F : List (List UInt8)) (hF : ∀ y ∈ F, y ≠ [] ∧ (∀ b ∈ y, whB b = false) ∧ y.length ≤ 1000) (hFl : F.length ≤ 1000) (B i : Nat) (hi : i < F.length)
    (next : ∀ k, B ≤ k → erratalaw02_TextLines.l4 k x1 true x9 x10 (F.map mk) ((i + 1 : Nat) : Int) = some true) :
    ∀ (d j k : Nat), F[i].length - j ≤ d → B + d + 1 ≤ k → j ≤ F[i].length → erratalaw02_TextLines.l5 k x1 true x9 x10 (F.map mk) (i : Int) (j : Int) = some true := by
  have hml : (F.map mk).length = F.length := List.length_map ..
  have hrd : rdOf ByteArray.empty (F.map mk) (i : Int) = mk F[i] := by rw [rd_at _ _ (by omega), List.getElem_map]
  have hsz : (mk F[i]).size = F[i].length := mk_len _
  obtain ⟨h1, h2, h3⟩ := hF F[i] (List.getElem_mem hi)
  intro d
  induction d with
  | zero =>
    intro j k hd hk hj
    obtain ⟨k, rfl⟩ : ∃ m, k = m + 1 := ⟨k - 1, by omega⟩
    simp only [erratalaw02_TextLines.l5]
    rw [hrd, if_pos (by omega), if_pos (by omega), if_neg (by omega), if_neg (by rw [tl2]; exact h1), w64n i (by omega)]
    exact next k (by omega)
  | succ d ih =>
    intro j k hd hk hj
    obtain ⟨k, rfl⟩ : ∃ m, k = m + 1 := ⟨k - 1, by omega⟩
    simp only [erratalaw02_TextLines.l5]
    rw [hrd, if_pos (by omega), if_pos (by omega)]
    by_cases h : j < F[i].length
    · have hb : bt (mk F[i]) (j : Int) = (F[i][j].toNat : Int) := (bt_nat (mk F[i]) j (by omega)).trans (congrArg (fun c : UInt8 => (c.toNat : Int)) (get_list (mk F[i]) j (by omega)))
      obtain ⟨g1, g2, g3⟩ := whB_ne _ (h2 F[i][j] (List.getElem_mem h))
      have n1 : ¬ (F[i][j].toNat : Int) = 32 := u8_ne (n := 32) g1 (by decide)
      have n2 : ¬ (F[i][j].toNat : Int) = 9 := u8_ne (n := 9) g2 (by decide)
      have n3 : ¬ (F[i][j].toNat : Int) = 10 := u8_ne (n := 10) g3 (by decide)
      rw [if_pos (by omega), if_pos (by omega), hb, if_neg n1, if_neg n2, if_neg n3, w64n j (by omega)]
      exact ih (j + 1) k (by omega) (by omega) (by omega)
    · rw [if_neg (by omega), if_neg (by rw [tl2]; exact h1), w64n i (by omega)]
      exact next k (by omega)
theorem lines_l4 (x1 x10 : ByteArray) (hx : x1.size ≤ 300) (h10 : x10.data.toList = fin10 x1.data.toList) (F : List (List UInt8)) (hFe : F = fld x1.data.toList) (hF : ∀ y ∈ F, y ≠ [] ∧ (∀ b ∈ y, whB b = false) ∧ y.length ≤ 1000) (hFl : F.length ≤ 1000) :
    ∀ (d i k : Nat), F.length - i ≤ d → 1002 * d + 1003 ≤ k → i ≤ F.length → erratalaw02_TextLines.l4 k x1 true ((lns x1.data.toList).map mk) x10 (F.map mk) (i : Int) = some true := by
  have hml : (F.map mk).length = F.length := List.length_map ..
  have hxl : x1.data.toList.length ≤ 300 := by rw [sz_toList]; exact hx
  have fin : ∀ k, 1002 ≤ k → ((text_Unlines.f ((lns x1.data.toList).map mk)).bind fun t363 => (if t363.toList = x10.toList then ((text_Fields.f x1).bind fun t364 => ((errataref02_Same.f k t364 (F.map mk)).bind fun t367 => (some t367))) else (some false))) = some true := by
    intro k hk
    have e1 := ends_lns x1.data.toList
    have e2 := fin10_len x1.data.toList
    have e3 := ends_count (lns x1.data.toList)
    rw [e1] at e3
    rw [unl_mk _ (by rw [e1]; omega) (by omega)]
    simp only [Option.bind_some]
    rw [if_pos (by rw [tl2, tl2, mk_list, e1, h10]), fields_eq x1 (by omega)]
    simp only [Option.bind_some]
    rw [← hFe, same_refl _ (by omega) _ (by omega)]
    rfl
  intro d
  induction d with
  | zero =>
    intro i k hd hk hi
    obtain ⟨k, rfl⟩ : ∃ m, k = m + 1 := ⟨k - 1, by omega⟩
    simp only [erratalaw02_TextLines.l4]
    rw [if_neg (by omega)]
    first
    | rw [if_pos trivial]
    | rw [if_pos rfl]
    exact fin k (by omega)
  | succ d ih =>
    intro i k hd hk hi
    obtain ⟨k, rfl⟩ : ∃ m, k = m + 1 := ⟨k - 1, by omega⟩
    simp only [erratalaw02_TextLines.l4]
    by_cases h : i < F.length
    · rw [if_pos (by omega)]
      have h3 := (hF F[i] (List.getElem_mem h)).2.2
      exact lines_l5 x1 x10 _ F hF hFl (1002 * d + 1003) i h (fun k hk => ih (i + 1) k (by omega) hk (by omega)) F[i].length 0 k (by omega) (by omega) (by omega)
    · rw [if_neg (by omega)]
      first
      | rw [if_pos trivial]
      | rw [if_pos rfl]
      exact fin k (by omega)

/-- The loop over the lines: their bytes. -/
theorem lines_l3 (x1 x10 : ByteArray) (A : List (List UInt8)) (hA : ∀ y ∈ A, (∀ c ∈ y, c ≠ 10) ∧ y.length ≤ 1000) (hAl : A.length ≤ 1000) (G : List (List UInt8)) (hG : ∀ i, ((A.take i).flatMap fld).length ≤ 1000) (B i : Nat) (hi : i < A.length) (hGe : G = (A.take i).flatMap fld)
    (next : ∀ k, B ≤ k → erratalaw02_TextLines.l2 k x1 true (A.map mk) x10 (((A.take (i + 1)).flatMap fld).map mk) ((i + 1 : Nat) : Int) = some true) :
    ∀ (d j k : Nat), A[i].length - j ≤ d → B + d + 1 ≤ k → j ≤ A[i].length → erratalaw02_TextLines.l3 k x1 true (A.map mk) x10 (G.map mk) (i : Int) (j : Int) = some true := by
  have hml : (A.map mk).length = A.length := List.length_map ..
  have hrd : rdOf ByteArray.empty (A.map mk) (i : Int) = mk A[i] := by rw [rd_at _ _ (by omega), List.getElem_map]
  have hsz : (mk A[i]).size = A[i].length := mk_len _
  obtain ⟨h2, h3⟩ := hA A[i] (List.getElem_mem hi)
  have hT : (A.take (i + 1)).flatMap fld = G ++ fld A[i] := by
    rw [List.take_succ_eq_append_getElem hi, List.flatMap_append, hGe]
    simp
  have fin : ∀ k, B ≤ k → ((text_Fields.f (mk A[i])).bind fun t357 => (if (G.map mk).length + t357.length < 8796093022208 then (erratalaw02_TextLines.l2 k x1 true (A.map mk) x10 ((G.map mk) ++ t357) (wrap64 ((i : Int) + 1))) else (none))) = some true := by
    intro k hk
    rw [fields_eq _ (by omega)]
    simp only [Option.bind_some]
    have hl := hG (i + 1)
    rw [hT, List.length_append] at hl
    rw [mk_list, if_pos (by rw [List.length_map, List.length_map]; omega), ← List.map_append, ← hT, w64n i (by omega)]
    exact next k hk
  intro d
  induction d with
  | zero =>
    intro j k hd hk hj
    obtain ⟨k, rfl⟩ : ∃ m, k = m + 1 := ⟨k - 1, by omega⟩
    simp only [erratalaw02_TextLines.l3]
    rw [hrd, if_pos (by omega), if_pos (by omega), if_neg (by omega)]
    exact fin k (by omega)
  | succ d ih =>
    intro j k hd hk hj
    obtain ⟨k, rfl⟩ : ∃ m, k = m + 1 := ⟨k - 1, by omega⟩
    simp only [erratalaw02_TextLines.l3]
    rw [hrd, if_pos (by omega), if_pos (by omega)]
    by_cases h : j < A[i].length
    · have hb : bt (mk A[i]) (j : Int) = (A[i][j].toNat : Int) := (bt_nat (mk A[i]) j (by omega)).trans (congrArg (fun c : UInt8 => (c.toNat : Int)) (get_list (mk A[i]) j (by omega)))
      have n3 : ¬ (A[i][j].toNat : Int) = 10 := u8_ne (n := 10) (h2 A[i][j] (List.getElem_mem h)) (by decide)
      rw [if_pos (by omega), if_pos (by omega), hb, if_neg n3, w64n j (by omega)]
      exact ih (j + 1) k (by omega) (by omega) (by omega)
    · rw [if_neg (by omega)]
      exact fin k (by omega)
theorem lines_l2 (x1 x10 : ByteArray) (A : List (List UInt8)) (hA : ∀ y ∈ A, (∀ c ∈ y, c ≠ 10) ∧ y.length ≤ 1000) (hAl : A.length ≤ 1000) (hG : ∀ i, ((A.take i).flatMap fld).length ≤ 1000) (B : Nat)
    (next : ∀ k, B ≤ k → erratalaw02_TextLines.l4 k x1 true (A.map mk) x10 ((A.flatMap fld).map mk) 0 = some true) :
    ∀ (d i k : Nat), A.length - i ≤ d → 1002 * d + B + 1 ≤ k → i ≤ A.length → erratalaw02_TextLines.l2 k x1 true (A.map mk) x10 (((A.take i).flatMap fld).map mk) (i : Int) = some true := by
  have hml : (A.map mk).length = A.length := List.length_map ..
  intro d
  induction d with
  | zero =>
    intro i k hd hk hi
    obtain ⟨k, rfl⟩ : ∃ m, k = m + 1 := ⟨k - 1, by omega⟩
    simp only [erratalaw02_TextLines.l2]
    rw [if_neg (by omega), List.take_of_length_le (by omega)]
    exact next k (by omega)
  | succ d ih =>
    intro i k hd hk hi
    obtain ⟨k, rfl⟩ : ∃ m, k = m + 1 := ⟨k - 1, by omega⟩
    simp only [erratalaw02_TextLines.l2]
    by_cases h : i < A.length
    · rw [if_pos (by omega)]
      have h3 := (hA A[i] (List.getElem_mem h)).2
      exact lines_l3 x1 x10 A hA hAl _ hG (1002 * d + B + 1) i h rfl (fun k hk => ih (i + 1) k (by omega) hk (by omega)) A[i].length 0 k (by omega) (by omega) (by omega)
    · rw [if_neg (by omega), List.take_of_length_le (by omega)]
      exact next k (by omega)
theorem lines_j5 (x1 x10 : ByteArray) (hx : x1.size ≤ 300) (h10 : x10.data.toList = fin10 x1.data.toList) (k : Nat) (hk : 1000000 ≤ k) :
    erratalaw02_TextLines.j5 k x1 true ((lns x1.data.toList).map mk) x10 = some true := by
  obtain ⟨k, rfl⟩ : ∃ m, k = m + 1 := ⟨k - 1, by omega⟩
  simp only [erratalaw02_TextLines.j5]
  have hxl : x1.data.toList.length ≤ 300 := by rw [sz_toList]; exact hx
  have e1 := ends_lns x1.data.toList
  have e2 := fin10_len x1.data.toList
  have e3 := ends_count (lns x1.data.toList)
  rw [e1] at e3
  have hA : ∀ y ∈ lns x1.data.toList, (∀ c ∈ y, c ≠ 10) ∧ y.length ≤ 1000 := by
    intro y hy
    refine ⟨lns_no _ y hy, ?_⟩
    have := ends_len_le _ y hy
    rw [e1] at this
    omega
  have hf := flG_len x1.data.toList none
  have hfl : (fld x1.data.toList).length ≤ 301 := by
    show (flG none x1.data.toList).length ≤ 301
    omega
  have hG : ∀ i, (((lns x1.data.toList).take i).flatMap fld).length ≤ 1000 := by
    intro i
    have e : (lns x1.data.toList).flatMap fld = ((lns x1.data.toList).take i).flatMap fld ++ ((lns x1.data.toList).drop i).flatMap fld := by
      rw [← List.flatMap_append, List.take_append_drop]
    rw [fld_lns] at e
    have := congrArg List.length e
    rw [List.length_append] at this
    omega
  have hF : ∀ y ∈ fld x1.data.toList, y ≠ [] ∧ (∀ b ∈ y, whB b = false) ∧ y.length ≤ 1000 := by
    intro y hy
    obtain ⟨g1, g2⟩ := fld_good _ y hy
    have := flG_each x1.data.toList none y hy
    simp only [Option.getD_none, List.length_nil] at this
    exact ⟨g1, g2, by omega⟩
  have := lines_l2 x1 x10 (lns x1.data.toList) hA (by omega) hG 400000 (fun k hk => by
    rw [fld_lns]
    exact lines_l4 x1 x10 hx h10 _ rfl hF (by omega) 301 0 k (by omega) (by omega) (by omega)) 301 0 k (by omega) (by omega) (by omega)
  simpa using this
theorem lines_j3 (x1 : ByteArray) (hx : x1.size ≤ 300) (k : Nat) (hk : 1000002 ≤ k) : erratalaw02_TextLines.j3 k x1 true false = some true := by
  obtain ⟨k, rfl⟩ : ∃ m, k = m + 2 := ⟨k - 2, by omega⟩
  simp only [erratalaw02_TextLines.j3]
  rw [if_neg (by decide), lines_eq x1 (by omega)]
  simp only [Option.bind_some]
  have j4f : ∀ x10, x10.data.toList = fin10 x1.data.toList → erratalaw02_TextLines.j4 (k + 1) x1 true ((lns x1.data.toList).map mk) x10 false = some true := by
    intro x10 h10
    simp only [erratalaw02_TextLines.j4]
    rw [if_neg (by decide)]
    exact lines_j5 x1 x10 hx h10 k (by omega)
  by_cases h0 : x1.toList = ([] : List UInt8)
  · rw [if_pos h0]
    refine j4f x1 ?_
    rw [tl2] at h0
    unfold fin10
    rw [if_pos (.inl h0)]
  · have h0' : x1.data.toList ≠ [] := by rw [← tl2]; exact h0
    have hne : x1.size ≠ 0 := by
      intro e
      apply h0'
      exact List.eq_nil_of_length_eq_zero (by rw [sz_toList]; exact e)
    rw [if_neg h0, w64 (by omega) (by omega), if_pos (by omega), if_pos (by omega)]
    have hb0 := bt_nat x1 (x1.size - 1) (by omega)
    rw [show ((x1.size - 1 : Nat) : Int) = (x1.size : Int) - 1 from by omega] at hb0
    have hlast : x1.data.toList.getLast? = some x1[x1.size - 1] := by
      rw [List.getLast?_eq_getElem?, sz_toList, List.getElem?_eq_getElem (by rw [sz_toList]; omega), ← get_list x1 (x1.size - 1) (by omega)]
    rw [hb0]
    by_cases h10 : x1[x1.size - 1] = 10
    · have e : ((x1[x1.size - 1].toNat : Int) != 10) = false := by rw [h10]; rfl
      rw [e]
      refine j4f x1 ?_
      unfold fin10
      rw [if_pos (.inr (by rw [hlast, h10]))]
    · have n10 : ¬ (x1[x1.size - 1].toNat : Int) = 10 := u8_ne (n := 10) h10 (by decide)
      have e : ((x1[x1.size - 1].toNat : Int) != 10) = true := bne_iff_ne.2 n10
      rw [e]
      simp only [erratalaw02_TextLines.j4]
      first
      | rw [if_pos trivial, if_pos (by omega)]
      | rw [if_pos rfl, if_pos (by omega)]
      refine lines_j5 x1 _ hx ?_ k (by omega)
      unfold fin10
      rw [if_neg (by rintro (g | g); exact h0' g; rw [hlast] at g; exact h10 (Option.some.inj g)), ByteArray.data_append, Array.toList_append]

/-- The first loop: the lists' bytes. -/
theorem lines_l1 (x0 : List ByteArray) (x1 : ByteArray) (hl : x0.length ≤ 30) (B i : Nat) (hi : i < x0.length) (hs : x0[i].size ≤ 100)
    (next : ∀ k b, B ≤ k → (b = true → ∀ y ∈ x0.take (i + 1), ∀ c ∈ y.data.toList, c ≠ 10) → erratalaw02_TextLines.l0 k x0 x1 true b ((i + 1 : Nat) : Int) = some true) :
    ∀ (d j k : Nat) (b : Bool), x0[i].size - j ≤ d → B + d + 1 ≤ k → j ≤ x0[i].size → (b = true → (∀ y ∈ x0.take i, ∀ c ∈ y.data.toList, c ≠ 10) ∧ ∀ c ∈ x0[i].data.toList.take j, c ≠ 10) →
      erratalaw02_TextLines.l1 k x0 x1 true b (i : Int) (j : Int) = some true := by
  have hrd : rdOf ByteArray.empty x0 (i : Int) = x0[i] := rd_at _ _ hi
  have fin : ∀ k b, B ≤ k → (b = true → (∀ y ∈ x0.take i, ∀ c ∈ y.data.toList, c ≠ 10) ∧ ∀ c ∈ x0[i].data.toList, c ≠ 10) → erratalaw02_TextLines.l0 k x0 x1 true b (wrap64 ((i : Int) + 1)) = some true := by
    intro k b hk hb
    rw [w64n i (by omega)]
    refine next k b hk fun e y hy => ?_
    rw [List.take_succ_eq_append_getElem hi] at hy
    rcases List.mem_append.1 hy with g | g
    · exact (hb e).1 y g
    · rw [List.mem_singleton.1 g]; exact (hb e).2
  intro d
  induction d with
  | zero =>
    intro j k b hd hk hj hb
    obtain ⟨k, rfl⟩ : ∃ m, k = m + 1 := ⟨k - 1, by omega⟩
    simp only [erratalaw02_TextLines.l1]
    rw [hrd, if_pos (by omega), if_pos (by omega), if_neg (by omega)]
    refine fin k b (by omega) fun e => ⟨(hb e).1, ?_⟩
    have := (hb e).2
    rw [List.take_of_length_le (by rw [sz_toList]; omega)] at this
    exact this
  | succ d ih =>
    intro j k b hd hk hj hb
    obtain ⟨k, rfl⟩ : ∃ m, k = m + 1 := ⟨k - 1, by omega⟩
    simp only [erratalaw02_TextLines.l1]
    rw [hrd, if_pos (by omega), if_pos (by omega)]
    by_cases h : j < x0[i].size
    · have hb0 := bt_nat x0[i] j h
      rw [if_pos (by omega), hb0, w64n j (by omega)]
      cases b with
      | false =>
        rw [if_neg (by decide)]
        exact ih (j + 1) k false (by omega) (by omega) (by omega) (fun e => by cases e)
      | true =>
        first
        | rw [if_pos trivial, if_pos (by omega)]
        | rw [if_pos rfl, if_pos (by omega)]
        refine ih (j + 1) k _ (by omega) (by omega) (by omega) fun e => ⟨(hb rfl).1, ?_⟩
        intro c hc
        rw [List.take_succ_eq_append_getElem (by rw [sz_toList]; exact h)] at hc
        rcases List.mem_append.1 hc with g | g
        · exact (hb rfl).2 c g
        · rw [List.mem_singleton.1 g, ← get_list x0[i] j h]
          intro e2
          rw [e2] at e
          cases e
    · rw [if_neg (by omega)]
      refine fin k b (by omega) fun e => ⟨(hb e).1, ?_⟩
      have := (hb e).2
      rw [List.take_of_length_le (by rw [sz_toList]; omega)] at this
      exact this
theorem ends_bound (l : List (List UInt8)) (h : ∀ y ∈ l, y.length ≤ 100) : (ends l).length ≤ 101 * l.length := by
  induction l with
  | nil => exact Nat.le_refl _
  | cons x l ih =>
    have h1 := h x (by simp)
    have h2 := ih fun y hy => h y (by simp [hy])
    rw [ends_cons, List.length_append, List.length_cons, List.length_cons]
    omega
theorem lines_l0 (x0 : List ByteArray) (x1 : ByteArray) (hl : x0.length ≤ 30) (hx : x1.size ≤ 300) :
    ∀ (d i k : Nat) (b : Bool), x0.length - i ≤ d → 102 * d + 1000003 ≤ k → i ≤ x0.length → (∀ y ∈ x0.take i, y.size ≤ 100) → (b = true → ∀ y ∈ x0.take i, ∀ c ∈ y.data.toList, c ≠ 10) →
      erratalaw02_TextLines.l0 k x0 x1 true b (i : Int) = some true := by
  have hmap : (x0.map fun y => y.data.toList).map mk = x0 := by
    rw [List.map_map]
    refine (List.map_congr_left fun y _ => mk_of y).trans (List.map_id _)
  have fin : ∀ k b, 1000002 ≤ k → (∀ y ∈ x0, y.size ≤ 100) → (b = true → ∀ y ∈ x0, ∀ c ∈ y.data.toList, c ≠ 10) → (if b = true then ((text_Unlines.f x0).bind fun t346 => ((text_Lines.f t346).bind fun t347 => ((errataref02_Same.f k t347 x0).bind fun t350 => (erratalaw02_TextLines.j3 k x1 true (!t350))))) else (erratalaw02_TextLines.j3 k x1 true false)) = some true := by
    intro k b hk hs hb
    cases b with
    | false =>
      rw [if_neg (by decide)]
      exact lines_j3 x1 hx k hk
    | true =>
      rw [if_pos rfl]
      have hs2 : ∀ y ∈ x0.map (fun y => y.data.toList), y.length ≤ 100 := by
        intro y hy
        obtain ⟨z, hz, rfl⟩ := List.mem_map.1 hy
        rw [sz_toList]
        exact hs z hz
      have hb2 : ∀ y ∈ x0.map (fun y => y.data.toList), ∀ c ∈ y, c ≠ 10 := by
        intro y hy
        obtain ⟨z, hz, rfl⟩ := List.mem_map.1 hy
        exact hb rfl z hz
      have he := ends_bound _ hs2
      rw [List.length_map] at he
      have hu : text_Unlines.f x0 = some (mk (ends (x0.map fun y => y.data.toList))) := by
        rw [← unl_mk _ (by omega) (by rw [List.length_map]; omega), hmap]
      have hL : text_Lines.f (mk (ends (x0.map fun y => y.data.toList))) = some x0 := by
        rw [lines_eq _ (by rw [mk_len]; omega), mk_list, lns_ends _ hb2, hmap]
      rw [hu]
      simp only [Option.bind_some]
      rw [hL]
      simp only [Option.bind_some]
      rw [same_refl x0 (by omega) k (by omega)]
      simp only [Option.bind_some]
      exact lines_j3 x1 hx k hk
  intro d
  induction d with
  | zero =>
    intro i k b hd hk hi hs hb
    obtain ⟨k, rfl⟩ : ∃ m, k = m + 1 := ⟨k - 1, by omega⟩
    simp only [erratalaw02_TextLines.l0]
    rw [if_neg (by omega)]
    rw [List.take_of_length_le (by omega)] at hs hb
    exact fin k b (by omega) hs hb
  | succ d ih =>
    intro i k b hd hk hi hs hb
    obtain ⟨k, rfl⟩ : ∃ m, k = m + 1 := ⟨k - 1, by omega⟩
    simp only [erratalaw02_TextLines.l0]
    by_cases h : i < x0.length
    · rw [if_pos (by omega), if_pos (by omega), rd_at x0 i h]
      by_cases hz : x0[i].size ≤ 100
      · rw [if_neg (by omega)]
        refine lines_l1 x0 x1 hl (102 * d + 1000003) i h hz (fun k b hk hb => ih (i + 1) k b (by omega) hk (by omega) ?_ hb) x0[i].size 0 k b (by omega) (by omega) (by omega) (fun e => ⟨hb e, by simp⟩)
        intro y hy
        rw [List.take_succ_eq_append_getElem h] at hy
        rcases List.mem_append.1 hy with g | g
        · exact hs y g
        · rw [List.mem_singleton.1 g]; exact hz
      · rw [if_pos (by omega)]
    · rw [if_neg (by omega)]
      rw [List.take_of_length_le (by omega)] at hs hb
      exact fin k b (by omega) hs hb

theorem TextLines_ex (x0 : List ByteArray) (x1 : ByteArray) (w1 : x1.size ≤ 140737488351232) : ∃ k, erratalaw02_TextLines.f k x0 x1 = some true := by
  refine ⟨1010000, ?_⟩
  unfold erratalaw02_TextLines.f
  rw [small_true 1010000 (by omega)]
  simp only [Option.bind_some]
  have out : ∀ m, erratalaw02_TextLines.j0 (m + 1) x0 x1 true true = some true := by
    intro m
    simp only [erratalaw02_TextLines.j0]
    first
    | rw [if_pos trivial]
    | rw [if_pos rfl]
  have inn : ∀ m, 1009000 ≤ m → x0.length ≤ 30 → x1.size ≤ 300 → erratalaw02_TextLines.j0 (m + 1) x0 x1 true false = some true := by
    intro m hm h0 h1
    simp only [erratalaw02_TextLines.j0]
    rw [if_neg (by decide)]
    exact lines_l0 x0 x1 h0 h1 30 0 m true (by omega) (by omega) (by omega) (by simp) (by simp)
  by_cases h0 : x0.length ≤ 30
  · rw [if_neg (by omega)]
    by_cases h1 : x1.size ≤ 300
    · rw [decide_eq_false (show ¬ (x1.size : Int) > 300 by omega)]
      exact inn 1009999 (by omega) h0 h1
    · rw [decide_eq_true (show (x1.size : Int) > 300 by omega)]
      exact out 1009999
  · rw [if_pos (by omega)]
    exact out 1009999
end Go.Proofs.YtfefbnfmngdicaaDoor.PX
