/- What the reference's Quote, Decimal, Int and Unquote compute, plainly. -/
import Derived.Test.YtfefbnfmngdicaaDoorY2
import Derived.Test.YtfefbnfmngdicaaDoorPZ4
import Derived.Test.YtfefbnfmngdicaaDoorE5
import Derived.Lib.ItoaLen
import Derived.Test.YtfefbnfmngdicaaDoorPZ5
import Derived.Deep.LoopGhost
import Derived.Deep.CutBlock
namespace Go.Proofs.YtfefbnfmngdicaaDoor.PX
set_option linter.unusedVariables false
set_option linter.unusedSimpArgs false
open Go.RowKit Go.Proofs.YtfefbnfmngdicaaDoorW.PrintWords

theorem wr {x : Int} (h0 : -9223372036854775808 ≤ x) (h1 : x ≤ 9223372036854775807) : wrap64 x = x := by unfold wrap64; omega
theorem wrn (i : Nat) (h : i ≤ 1000000000) : wrap64 ((i : Int) + 1) = ((i + 1 : Nat) : Int) := by rw [wr (by omega) (by omega)]; omega
theorem btn (s : ByteArray) (i : Nat) (h : i < s.size) : bt s (i : Int) = (s[i].toNat : Int) := (bt_at s (i : Int) (by rw [Int.toNat_natCast]; exact h)).symm
/-- Bytes as numbers. -/
def nm (l : List UInt8) : List Int := l.map fun c => (c.toNat : Int)
theorem nm_app (a b : List UInt8) : nm (a ++ b) = nm a ++ nm b := List.map_append
theorem nm_len (a : List UInt8) : (nm a).length = a.length := List.length_map _
theorem str_nm (l : List UInt8) : strOfNums (nm l) = bs l := by
  unfold strOfNums nm bs
  rw [List.map_map]
  have : l.map ((fun n : Int => UInt8.ofNat n.toNat) ∘ fun c : UInt8 => (c.toNat : Int)) = l := by
    conv => rhs; rw [← List.map_id l]
    refine List.map_congr_left (fun c _ => ?_)
    show UInt8.ofNat ((c.toNat : Int)).toNat = c
    rw [Int.toNat_natCast, UInt8.ofNat_toNat]
  rw [this]
theorem dropC (s : ByteArray) (i : Nat) (h : i < s.size) : s.data.toList.drop i = s[i] :: s.data.toList.drop (i + 1) := by
  rw [List.drop_eq_getElem_cons (by rw [sz_toList]; exact h)]; rfl
theorem hexBt (n : Nat) (h : n < 16) : bt (⟨#[48, 49, 50, 51, 52, 53, 54, 55, 56, 57, 97, 98, 99, 100, 101, 102]⟩ : ByteArray) (n : Int) = ((hexD n).toNat : Int) := by
  have h16 : n < (⟨#[48, 49, 50, 51, 52, 53, 54, 55, 56, 57, 97, 98, 99, 100, 101, 102]⟩ : ByteArray).size := h
  rw [btn _ n h16, hexAt n h16]

/-! ### Quote -/
theorem refQuote_l0 (s : ByteArray) (hs : s.size ≤ 1000000) : ∀ (j i k : Nat) (acc : List UInt8), s.size - i ≤ j → 2 * j + 1 ≤ k → i ≤ s.size → acc.length ≤ 4 * i + 1 →
    errataref02_Quote.l0 k s (nm acc) (i : Int) = some (bs (acc ++ ((s.data.toList.drop i).flatMap quoB ++ [34]))) := by
  intro j
  induction j with
  | zero =>
    intro i k acc hj hk hi ha
    obtain ⟨k, rfl⟩ : ∃ m, k = m + 1 := ⟨k - 1, by omega⟩
    simp only [errataref02_Quote.l0]
    rw [if_neg (by omega), nm_len, if_pos (by omega), show nm acc ++ [34] = nm (acc ++ [34]) from (nm_app acc [34]).symm, str_nm, List.drop_of_length_le (by rw [sz_toList]; omega)]
    rfl
  | succ j ih =>
    intro i k acc hj hk hi ha
    by_cases h : i < s.size
    · obtain ⟨k, rfl⟩ : ∃ m, k = m + 2 := ⟨k - 2, by omega⟩
      have hc := s[i].toNat_lt
      have step : ∀ q : List UInt8, quoB s[i] = q → errataref02_Quote.l0 k s (nm acc ++ nm q) ((i + 1 : Nat) : Int) = some (bs (acc ++ ((s.data.toList.drop i).flatMap quoB ++ [34]))) := fun q hq => by
        have hql := quoB_len s[i]
        rw [hq] at hql
        rw [← nm_app, ih (i + 1) k (acc ++ q) (by omega) (by omega) (by omega) (by rw [List.length_append]; omega), dropC s i h, List.flatMap_cons, hq]
        simp only [List.append_assoc]
      simp only [errataref02_Quote.l0]
      rw [if_pos (by omega), if_pos (by omega), btn s i h]
      revert step hc
      generalize s[i] = c
      intro hc step
      have fin : errataref02_Quote.j1 (k + 1) s (nm acc) (i : Int) (c.toNat : Int) (decide (c.toNat = 34 ∨ c.toNat = 92)) = some (bs (acc ++ ((s.data.toList.drop i).flatMap quoB ++ [34]))) := by
        simp only [errataref02_Quote.j1, Option.bind_some, nm_len]
        by_cases h1 : c.toNat = 34 ∨ c.toNat = 92
        · rw [decide_eq_true h1, if_pos rfl, if_pos (by show acc.length + 2 < _; omega), wrn i (by omega)]
          exact step [92, c] (if_pos h1)
        · rw [decide_eq_false h1, if_neg (by decide)]
          by_cases h2 : c.toNat = 10
          · rw [if_pos (by omega), if_pos (by show acc.length + 2 < _; omega), wrn i (by omega)]
            exact step [92, 110] (by unfold quoB; rw [if_neg h1, if_pos h2])
          · have hd1 : Int.tdiv (c.toNat : Int) 16 % 256 = ((c.toNat / 16 : Nat) : Int) := by rw [Int.tdiv_eq_ediv_of_nonneg (by omega)]; omega
            have hd2 : Int.tmod (c.toNat : Int) 16 = ((c.toNat % 16 : Nat) : Int) := by rw [Int.tmod_eq_emod_of_nonneg (by omega)]; omega
            have hx : quoB c = (if 32 ≤ c.toNat ∧ c.toNat ≤ 126 then [c] else [92, 120, hexD (c.toNat / 16), hexD (c.toNat % 16)]) := by unfold quoB; rw [if_neg h1, if_neg h2]
            rw [if_neg (by omega), hd1, hd2, hexBt _ (by omega), hexBt _ (by omega)]
            by_cases h3 : c.toNat < 32
            · rw [if_pos (by omega), if_pos (by omega), if_pos (by omega), if_pos (by omega), if_pos (by omega), if_pos (by show acc.length + 4 < _; omega), wrn i (by omega)]
              exact step _ (by rw [hx, if_neg (by omega)])
            · rw [if_neg (by omega)]
              by_cases h4 : c.toNat > 126
              · rw [if_pos (by omega), if_pos (by omega), if_pos (by omega), if_pos (by omega), if_pos (by omega), if_pos (by show acc.length + 4 < _; omega), wrn i (by omega)]
                exact step _ (by rw [hx, if_neg (by omega)])
              · rw [if_neg (by omega), if_pos (by omega), wrn i (by omega)]
                exact step [c] (by rw [hx, if_pos (by omega)])
      by_cases h1 : c.toNat = 34
      · rw [if_pos (by omega)]
        rw [decide_eq_true (show c.toNat = 34 ∨ c.toNat = 92 from .inl h1)] at fin
        exact fin
      · rw [if_neg (by omega)]
        have e : ((c.toNat : Int) == 92) = decide (c.toNat = 34 ∨ c.toNat = 92) := by
          rw [Bool.eq_iff_iff, beq_iff_eq, decide_eq_true_iff]; omega
        rw [e]
        exact fin
    · exact ih i k acc (by omega) (by omega) hi ha
theorem refQuote (s : ByteArray) (hs : s.size ≤ 1000000) (k : Nat) (hk : 2 * s.size + 1 ≤ k) : errataref02_Quote.f k s = some (bs (quo s.data.toList)) := by
  unfold errataref02_Quote.f
  exact refQuote_l0 s hs s.size 0 k [34] (by omega) hk (by omega) (by show 1 ≤ _; omega)

/-! ### Decimal -/
theorem bs_sz (l : List UInt8) : (bs l).size = l.length := by unfold bs; rw [ByteArray.size, List.size_toArray]
theorem bs_app (a b : List UInt8) : bs a ++ bs b = bs (a ++ b) := by
  rw [← bs_eq (bs a ++ bs b), app_list]
  rfl
theorem dec_one (d : Nat) (h : d < 10) : strOfNums [wrap64 (48 + (d : Int)) % 256] = bs [UInt8.ofNat (48 + d)] := by
  rw [wr (by omega) (by omega), show (48 + (d : Int)) % 256 = ((48 + d : Nat) : Int) by omega]
  rfl
theorem refDec_pos (u : Nat) : ∀ (k : Nat), u ≤ 9223372036854775807 → u < 10 ^ k → errataref02_Decimal.f (2 * k + 2) (u : Int) = some (bs (Lib.decDigits u)) := by
  induction u using Nat.strongRecOn with
  | _ u ih =>
    intro k hb hk
    show errataref02_Decimal.f ((2 * k + 1) + 1) _ = _
    simp only [errataref02_Decimal.f]
    rw [if_pos (by omega)]
    show errataref02_Decimal.j0 ((2 * k) + 1) _ _ = _
    simp only [errataref02_Decimal.j0]
    by_cases hu : u < 10
    · rw [decide_eq_true (by omega), if_pos rfl, dec_one u hu, dec_small hu]
    · cases k with
      | zero => rw [Nat.pow_zero] at hk; omega
      | succ k =>
        have hk2 : u / 10 < 10 ^ k := by rw [Nat.pow_succ] at hk; omega
        have hd : wrap64 (Int.tdiv (u : Int) 10) = ((u / 10 : Nat) : Int) := by rw [Int.tdiv_eq_ediv_of_nonneg (by omega), wr (by omega) (by omega)]; omega
        have hm : Int.tmod (u : Int) 10 = ((u % 10 : Nat) : Int) := by rw [Int.tmod_eq_emod_of_nonneg (by omega)]; omega
        have h1 : 1 ≤ k := by
          rcases Nat.eq_zero_or_pos k with rfl | h
          · rw [Nat.pow_zero] at hk2; omega
          · exact h
        have hp1 : u % 10 < 10 ^ k := by
          have : 10 ^ 1 ≤ 10 ^ k := Nat.pow_le_pow_right (by decide) h1
          omega
        have e1 := ih (u / 10) (by omega) k (by omega) hk2
        have e2 := ih (u % 10) (by omega) k (by omega) hp1
        have l1 := Lib.itoa_length_le ((u / 10 : Nat) : Int) (by omega) (by omega)
        have l2 := Lib.itoa_length_le ((u % 10 : Nat) : Int) (by omega) (by omega)
        rw [Lib.itoa_nonneg] at l1 l2
        rw [decide_eq_false (by omega), if_neg (by decide), if_pos (by omega), hd, hm, show 2 * (k + 1) = 2 * k + 2 by omega, e1, e2]
        simp only [Option.bind_some]
        have s1 : (bs (Lib.decDigits (u / 10))).size ≤ 21 := by unfold bs; rw [ByteArray.size, List.size_toArray]; exact l1
        have s2 : (bs (Lib.decDigits (u % 10))).size ≤ 21 := by unfold bs; rw [ByteArray.size, List.size_toArray]; exact l2
        rw [if_pos (by omega), dec_big hu, dec_small (show u % 10 < 10 from Nat.mod_lt _ (by decide))]
        rw [bs_app]
theorem refDec_mono (m : Nat) (x : Int) (r : ByteArray) (h : errataref02_Decimal.f m x = some r) : ∀ d, errataref02_Decimal.f (m + d) x = some r
  | 0 => h
  | d + 1 => errataref02_Decimal.mono x (m + d) r (refDec_mono m x r h d)
theorem refDec_pos2 (u m : Nat) (hu : u ≤ 9223372036854775807) (hm : 40 ≤ m) : errataref02_Decimal.f m (u : Int) = some (bs (Lib.decDigits u)) := by
  have := refDec_mono _ _ _ (refDec_pos u 19 hu (by omega)) (m - 40)
  rwa [show 2 * 19 + 2 + (m - 40) = m by omega] at this
theorem dec_len (u : Nat) (h : u ≤ 9223372036854775807) : (Lib.decDigits u).length ≤ 21 := by
  have := Lib.itoa_length_le (u : Int) (by omega) (by omega)
  rwa [Lib.itoa_nonneg] at this
theorem refDec_neg (v : Nat) : ∀ (d m : Nat), 1 ≤ v → v ≤ 9223372036854775808 → v < 10 ^ d → 2 * d + 42 ≤ m → errataref02_Decimal.f m (-(v : Int)) = some (bs (45 :: Lib.decDigits v)) := by
  induction v using Nat.strongRecOn with
  | _ v ih =>
    intro d m hv1 hv2 hd hm
    obtain ⟨m, rfl⟩ : ∃ q, m = q + 2 := ⟨m - 2, by omega⟩
    simp only [errataref02_Decimal.f]
    rw [if_neg (by omega)]
    simp only [errataref02_Decimal.j0]
    rw [if_neg (by decide), if_neg (by omega)]
    by_cases h10 : -(v : Int) > -10
    · rw [if_pos h10, show wrap64 (- -(v : Int)) = (v : Int) by rw [wr (by omega) (by omega)]; omega, refDec_pos2 v m (by omega) (by omega)]
      simp only [Option.bind_some]
      have l1 := dec_len v (by omega)
      rw [if_pos (by rw [bs_sz]; omega), show (⟨#[45]⟩ : ByteArray) = bs [45] from rfl, bs_app]
      rfl
    · cases d with
      | zero => rw [Nat.pow_zero] at hd; omega
      | succ d =>
        have hdd : wrap64 (Int.tdiv (-(v : Int)) 10) = -((v / 10 : Nat) : Int) := by
          rw [Int.neg_tdiv, Int.tdiv_eq_ediv_of_nonneg (by omega), wr (by omega) (by omega)]; omega
        have hmm : wrap64 (-(Int.tmod (-(v : Int)) 10)) = ((v % 10 : Nat) : Int) := by
          rw [Int.neg_tmod, Int.tmod_eq_emod_of_nonneg (by omega), wr (by omega) (by omega)]; omega
        have l1 := dec_len (v / 10) (by omega)
        have l2 := dec_len (v % 10) (by omega)
        rw [if_neg h10, hdd, hmm, ih (v / 10) (by omega) d m (by omega) (by omega) (by rw [Nat.pow_succ] at hd; omega) (by omega), refDec_pos2 (v % 10) m (by omega) (by omega)]
        simp only [Option.bind_some]
        rw [if_pos (by rw [bs_sz, bs_sz, List.length_cons]; omega), bs_app, dec_big (show ¬ v < 10 by omega), dec_small (show v % 10 < 10 from Nat.mod_lt _ (by decide))]
        rfl
theorem refDec (n : Int) (h0 : -9223372036854775808 ≤ n) (h1 : n ≤ 9223372036854775807) (k : Nat) (hk : 80 ≤ k) : errataref02_Decimal.f k n = some (bs (Lib.itoa n)) := by
  by_cases hn : 0 ≤ n
  · obtain ⟨u, rfl⟩ := Int.eq_ofNat_of_zero_le hn
    rw [Lib.itoa_nonneg]
    exact refDec_pos2 u k (by omega) (by omega)
  · obtain ⟨u, hu⟩ := Int.eq_ofNat_of_zero_le (show 0 ≤ -n by omega)
    obtain rfl : n = -(u : Int) := by omega
    rw [Lib.itoa_neg u (by omega)]
    exact refDec_neg u 19 k (by omega) (by omega) (by omega) (by omega)
theorem bs_list' (l : List UInt8) : (bs l).data.toList = l := rfl

/-! ### Int -/
theorem int_has {v : Int} (h0 : -9223372036854775808 ≤ v) (h1 : v ≤ 9223372036854775807) {l : List UInt8} (h : Lib.itoa v = l) : intOf64 l = (v, true) := by
  unfold intOf64
  rw [← h, parse_itoa v h0 h1]
  simp only
  rw [if_pos trivial]
theorem int_none {l : List UInt8} (h : ∀ v : Int, -9223372036854775808 ≤ v → v ≤ 9223372036854775807 → Lib.itoa v ≠ l) : intOf64 l = (0, false) := by
  unfold intOf64
  split
  · rename_i v hp
    have hb := Lib.parseIntB_bounds hp
    have hb1 : -9223372036854775808 ≤ v := by have := hb.1; simp at this; omega
    have hb2 : v ≤ 9223372036854775807 := by have := hb.2; simp at this; omega
    rw [if_neg (h v hb1 hb2)]
  · rfl
/-- The number below nothing that digits make, as the reference reckons it. -/
def accF : List UInt8 → Int → Option Int
  | [], n => some n
  | c :: r, n => if (c.toNat : Int) < 48 then none else if (c.toNat : Int) > 57 then none else accF r (wrap64 (wrap64 (n * 10) - (((c.toNat : Int) - 48) % 256)))
theorem accF_app (b : List UInt8) : ∀ (a : List UInt8) (n : Int), accF (a ++ b) n = (accF a n).bind (accF b)
  | [], n => rfl
  | c :: a, n => by
    rw [List.cons_append]
    unfold accF
    by_cases h1 : (c.toNat : Int) < 48
    · rw [if_pos h1, if_pos h1]; rfl
    · rw [if_neg h1, if_neg h1]
      by_cases h2 : (c.toNat : Int) > 57
      · rw [if_pos h2, if_pos h2]; rfl
      · rw [if_neg h2, if_neg h2, accF_app b a]
theorem accF_one (d : Nat) (h : d < 10) (n : Int) (hn : -922337203685477580 ≤ n) (h2 : n ≤ 0) (h3 : -9223372036854775808 ≤ n * 10 - d) : accF [UInt8.ofNat (48 + d)] n = some (n * 10 - d) := by
  have e : (UInt8.ofNat (48 + d)).toNat = 48 + d := by rw [UInt8.toNat_ofNat']; omega
  unfold accF accF
  rw [e, if_neg (by omega), if_neg (by omega), wr (x := n * 10) (by omega) (by omega), show (((48 + d : Nat) : Int) - 48) % 256 = (d : Int) by omega, wr (by omega) (by omega)]
theorem accF_dec (u : Nat) (hu : u ≤ 9223372036854775808) : accF (Lib.decDigits u) 0 = some (-(u : Int)) := by
  induction u using Nat.strongRecOn with
  | _ u ih =>
    by_cases h : u < 10
    · rw [dec_small h, accF_one u h 0 (by omega) (by omega) (by omega)]
      congr 1
      omega
    · rw [dec_big h, accF_app, ih (u / 10) (by omega) (by omega), Option.bind_some, accF_one _ (Nat.mod_lt _ (by decide)) _ (by omega) (by omega) (by omega)]
      congr 1
      omega
theorem accF_range : ∀ (l : List UInt8) (n N : Int), -9223372036854775808 ≤ n → n ≤ 9223372036854775807 → accF l n = some N → -9223372036854775808 ≤ N ∧ N ≤ 9223372036854775807
  | [], n, N, h0, h1, h => by
    injection h with h
    omega
  | c :: l, n, N, h0, h1, h => by
    unfold accF at h
    split at h
    · cases h
    · split at h
      · cases h
      · exact accF_range l _ N (by unfold wrap64; omega) (by unfold wrap64; omega) h
/-- What the reference does at the end: it reads its own decimal back. -/
def intFin (s : ByteArray) (n : Int) : Int × Bool :=
  if s.data.toList.head? = some 45 then (if Lib.itoa n = s.data.toList then (n, true) else (0, false))
  else (if Lib.itoa (wrap64 (-n)) = s.data.toList then (wrap64 (-n), true) else (0, false))
theorem bt_head (s : ByteArray) (h : 0 < s.size) (c : UInt8) : bt s 0 = (c.toNat : Int) ↔ s.data.toList.head? = some c := by
  have := btn s 0 h
  rw [show bt s 0 = (s[0].toNat : Int) from this]
  have e : s.data.toList = s[0] :: s.data.toList.drop 1 := dropC s 0 h
  rw [e]
  constructor
  · intro h2
    have : s[0] = c := UInt8.toNat_inj.1 (by omega)
    rw [this]; rfl
  · intro h2
    have := Option.some.inj h2
    rw [this]
theorem fin_ite (x : List UInt8) (s : ByteArray) (v : Int × Bool) : (if (bs x).toList = s.toList then some v else some (0, false)) = some (if x = s.data.toList then v else (0, false)) := by
  by_cases h : x = s.data.toList
  · rw [if_pos h, if_pos (by rw [Lib.toList_data, Lib.toList_data]; exact h)]
  · rw [if_neg h, if_neg (by rw [Lib.toList_data, Lib.toList_data]; exact h)]
theorem refInt_l0 (s : ByteArray) (h0 : 0 < s.size) (h20 : s.size ≤ 20) : ∀ (j i k : Nat) (n : Int), s.size - i ≤ j → 2 * j + 100 ≤ k → i ≤ s.size → -9223372036854775808 ≤ n → n ≤ 9223372036854775807 → (i = 0 → s.data.toList.head? ≠ some 45) →
    errataref02_Int.l0 k s n (i : Int) = some (match accF (s.data.toList.drop i) n with | none => (0, false) | some N => intFin s N) := by
  intro j
  induction j with
  | zero =>
    intro i k n hj hk hi hn0 hn1 hz
    obtain ⟨k, rfl⟩ : ∃ m, k = m + 1 := ⟨k - 1, by omega⟩
    have hw : -9223372036854775808 ≤ wrap64 (-n) ∧ wrap64 (-n) ≤ 9223372036854775807 := by unfold wrap64; omega
    simp only [errataref02_Int.l0]
    rw [if_neg (by omega), if_pos (by omega), List.drop_of_length_le (by rw [sz_toList]; omega)]
    simp only [accF]
    unfold intFin
    have hb : bt s 0 = 45 ↔ s.data.toList.head? = some 45 := bt_head s h0 45
    by_cases h45 : s.data.toList.head? = some 45
    · rw [if_pos (hb.2 h45), if_pos h45, refDec n hn0 hn1 k (by omega)]
      simp only [Option.bind_some]
      exact fin_ite _ _ _
    · rw [if_neg (fun e => h45 (hb.1 e)), if_neg h45, refDec _ hw.1 hw.2 k (by omega)]
      simp only [Option.bind_some]
      exact fin_ite _ _ _
  | succ j ih =>
    intro i k n hj hk hi hn0 hn1 hz
    by_cases h : i < s.size
    · obtain ⟨k, rfl⟩ : ∃ m, k = m + 2 := ⟨k - 2, by omega⟩
      have fin : errataref02_Int.j2 (k + 1) s n (i : Int) false = some (match accF (s.data.toList.drop i) n with | none => (0, false) | some N => intFin s N) := by
        simp only [errataref02_Int.j2]
        rw [if_neg (by decide), if_pos (by omega), if_pos (by omega), btn s i h, dropC s i h]
        simp only [accF]
        by_cases h1 : (s[i].toNat : Int) < 48
        · rw [if_pos h1, if_pos h1]
        · rw [if_neg h1, if_neg h1]
          by_cases h2 : (s[i].toNat : Int) > 57
          · rw [if_pos h2, if_pos h2]
          · rw [if_neg h2, if_neg h2, wrn i (by omega)]
            exact ih (i + 1) k _ (by omega) (by omega) (by omega) (by unfold wrap64; omega) (by unfold wrap64; omega) (fun e => by omega)
      simp only [errataref02_Int.l0]
      rw [if_pos (by omega)]
      by_cases hi0 : i = 0
      · subst hi0
        have hb : bt s 0 = 45 ↔ s.data.toList.head? = some 45 := bt_head s h0 45
        have e : (bt s 0 == 45) = false := beq_eq_false_iff_ne.2 (fun e => hz rfl (hb.1 e))
        rw [if_pos (by omega), if_pos (by omega), e]
        exact fin
      · rw [if_neg (by omega)]
        exact fin
    · exact ih i k n (by omega) (by omega) hi hn0 hn1 hz
theorem itoa_20 (v : Int) (h0 : -9223372036854775808 ≤ v) (h1 : v ≤ 9223372036854775807) : 1 ≤ (Lib.itoa v).length ∧ (Lib.itoa v).length ≤ 20 := by
  have len : ∀ (d u : Nat), u < 10 ^ (d + 1) → 1 ≤ (Lib.decDigits u).length ∧ (Lib.decDigits u).length ≤ d + 1 := by
    intro d
    induction d with
    | zero => intro u hu; rw [dec_small (by simpa using hu)]; exact ⟨Nat.le_refl _, Nat.le_refl _⟩
    | succ d ih =>
      intro u hu
      by_cases h : u < 10
      · rw [dec_small h]; exact ⟨Nat.le_refl _, by show 1 ≤ _; omega⟩
      · have := ih (u / 10) (by rw [Nat.pow_succ] at hu; omega)
        rw [dec_big h, List.length_append, List.length_singleton]
        omega
  by_cases hv : v < 0
  · obtain ⟨u, hu⟩ := Int.eq_ofNat_of_zero_le (show 0 ≤ -v by omega)
    obtain rfl : v = -(u : Int) := by omega
    have := len 18 u (by omega)
    rw [Lib.itoa_neg u (by omega), List.length_cons]
    omega
  · obtain ⟨u, rfl⟩ := Int.eq_ofNat_of_zero_le (show 0 ≤ v by omega)
    have := len 18 u (by omega)
    rw [Lib.itoa_nonneg]
    omega
theorem intFin_eq (s : ByteArray) (N : Int) (h0 : -9223372036854775808 ≤ N) (h1 : N ≤ 9223372036854775807) (hs : ∀ v : Int, -9223372036854775808 ≤ v → v ≤ 9223372036854775807 → Lib.itoa v = s.data.toList → accF (s.data.toList.drop (if s.data.toList.head? = some 45 then 1 else 0)) 0 = some N → (if s.data.toList.head? = some 45 then N else wrap64 (-N)) = v)
    (ha : accF (s.data.toList.drop (if s.data.toList.head? = some 45 then 1 else 0)) 0 = some N) : intFin s N = intOf64 s.data.toList := by
  have hw : -9223372036854775808 ≤ wrap64 (-N) ∧ wrap64 (-N) ≤ 9223372036854775807 := by unfold wrap64; omega
  unfold intFin
  by_cases h45 : s.data.toList.head? = some 45
  · rw [if_pos h45]
    by_cases he : Lib.itoa N = s.data.toList
    · rw [if_pos he, int_has h0 h1 he]
    · rw [if_neg he, int_none]
      intro v hv0 hv1 hv
      have := hs v hv0 hv1 hv ha
      rw [if_pos h45] at this
      exact he (by rw [this]; exact hv)
  · rw [if_neg h45]
    by_cases he : Lib.itoa (wrap64 (-N)) = s.data.toList
    · rw [if_pos he, int_has hw.1 hw.2 he]
    · rw [if_neg he, int_none]
      intro v hv0 hv1 hv
      have := hs v hv0 hv1 hv ha
      rw [if_neg h45] at this
      exact he (by rw [this]; exact hv)
theorem acc_itoa (v : Int) (h0 : -9223372036854775808 ≤ v) (h1 : v ≤ 9223372036854775807) :
    ∃ N, accF ((Lib.itoa v).drop (if (Lib.itoa v).head? = some 45 then 1 else 0)) 0 = some N ∧ (if (Lib.itoa v).head? = some 45 then N else wrap64 (-N)) = v := by
  by_cases hv : v < 0
  · obtain ⟨u, hu⟩ := Int.eq_ofNat_of_zero_le (show 0 ≤ -v by omega)
    obtain rfl : v = -(u : Int) := by omega
    rw [Lib.itoa_neg u (by omega)]
    refine ⟨-(u : Int), ?_, ?_⟩
    · rw [if_pos (show (45 :: Lib.decDigits u).head? = some 45 from rfl)]
      exact accF_dec u (by omega)
    · rw [if_pos (show (45 :: Lib.decDigits u).head? = some 45 from rfl)]
  · obtain ⟨u, rfl⟩ := Int.eq_ofNat_of_zero_le (show 0 ≤ v by omega)
    obtain ⟨c, r, e, hc1, hc2⟩ := dec_head u
    have hn : ¬ (Lib.decDigits u).head? = some 45 := by
      rw [e]
      intro h
      have := Option.some.inj h
      rw [this] at hc1
      exact absurd hc1 (by decide)
    rw [Lib.itoa_nonneg]
    refine ⟨-(u : Int), ?_, ?_⟩
    · rw [if_neg hn]
      exact accF_dec u (by omega)
    · rw [if_neg hn, wr (by omega) (by omega)]
      omega
theorem refInt (s : ByteArray) (k : Nat) (hk : 200 ≤ k) : errataref02_Int.f k s = some (intOf64 s.data.toList) := by
  obtain ⟨k, rfl⟩ : ∃ m, k = m + 3 := ⟨k - 3, by omega⟩
  have hls : s.data.toList.length = s.size := sz_toList s
  have bad : (s.size = 0 ∨ 20 < s.size) → intOf64 s.data.toList = (0, false) := fun h => int_none (fun v h0 h1 hv => by
    have := itoa_20 v h0 h1
    rw [hv, hls] at this
    omega)
  unfold errataref02_Int.f
  by_cases h0 : s.size = 0
  · rw [if_pos (by omega)]
    simp only [errataref02_Int.j0]
    rw [if_pos trivial, bad (.inl h0)]
  · rw [if_neg (by omega)]
    by_cases h20 : 20 < s.size
    · rw [decide_eq_true (by omega)]
      simp only [errataref02_Int.j0]
      rw [if_pos trivial, bad (.inr h20)]
    · rw [decide_eq_false (by omega)]
      simp only [errataref02_Int.j0]
      rw [if_neg (by decide)]
      have e : ∀ R : Option Int, R = accF (s.data.toList.drop (if s.data.toList.head? = some 45 then 1 else 0)) 0 → (match R with | none => ((0 : Int), false) | some N => intFin s N) = intOf64 s.data.toList := by
        rintro R hR
        rcases R with _ | N
        · refine (int_none (fun v h0 h1 hv => ?_)).symm
          obtain ⟨N, hN, _⟩ := acc_itoa v h0 h1
          rw [hv] at hN
          rw [hN] at hR
          cases hR
        · have hr := accF_range _ _ _ (by omega) (by omega) hR.symm
          refine intFin_eq s N hr.1 hr.2 (fun v h0 h1 hv ha => ?_) hR.symm
          obtain ⟨M, hM, hM2⟩ := acc_itoa v h0 h1
          rw [hv] at hM hM2
          rw [ha] at hM
          rw [Option.some.inj hM]
          exact hM2
      by_cases h45 : s.data.toList.head? = some 45
      · have hb := (bt_head s (by omega) 45).2 h45
        rw [if_pos h45] at e
        simp only [errataref02_Int.l0]
        rw [if_pos (by omega), if_pos trivial, if_pos (by omega), show (bt s 0 == 45) = true from beq_iff_eq.2 hb]
        show errataref02_Int.j2 (k + 1) s 0 0 true = _
        simp only [errataref02_Int.j2]
        rw [if_pos trivial, show wrap64 ((0 : Int) + 1) = ((1 : Nat) : Int) by rw [wr (by omega) (by omega)]; rfl, refInt_l0 s (by omega) (by omega) s.size 1 k 0 (by omega) (by omega) (by omega) (by omega) (by omega) (fun h => by omega)]
        exact congrArg some (e _ rfl)
      · rw [if_neg h45] at e
        show errataref02_Int.l0 (k + 2) s 0 ((0 : Nat) : Int) = _
        rw [refInt_l0 s (by omega) (by omega) s.size 0 (k + 2) 0 (by omega) (by omega) (by omega) (by omega) (by omega) (fun _ => h45)]
        exact congrArg some (e _ rfl)

/-! ### Unquote -/
def hxV (c : UInt8) : Nat := ((List.range 16).find? fun n => hexD n == c).getD 0
theorem hxV_hex : ∀ n, n < 16 → hxV (hexD n) = n := by decide
theorem hxV_lt (c : UInt8) : hxV c < 16 := by
  have e := all_u8 (fun c => decide (hxV c < 16)) (by decide +kernel) c
  exact of_decide_eq_true e
theorem refDigit (c : UInt8) (k : Nat) (hk : 20 ≤ k) : errataref02_digit.f k (c.toNat : Int) = some (hxV c : Int) := by
  have e := all_u8 (fun c => errataref02_digit.f 20 (c.toNat : Int) == some (hxV c : Int)) (by decide +kernel) c
  have e := beq_iff_eq.1 e
  have mono : ∀ d, errataref02_digit.f (20 + d) (c.toNat : Int) = some (hxV c : Int) := by
    intro d
    induction d with
    | zero => exact e
    | succ d ih => exact errataref02_digit.mono _ (20 + d) _ ih
  have := mono (k - 20)
  rwa [show 20 + (k - 20) = k by omega] at this
def rqX (f : List UInt8 → List UInt8) : List UInt8 → List UInt8
  | a :: b :: r => UInt8.ofNat (hxV a * 16 + hxV b) :: f r
  | r => 120 :: f r
theorem rqX_two (f : List UInt8 → List UInt8) (a b : UInt8) (r : List UInt8) : rqX f (a :: b :: r) = UInt8.ofNat (hxV a * 16 + hxV b) :: f r := rfl
theorem rqX_short (f : List UInt8 → List UInt8) : ∀ r : List UInt8, r.length < 2 → rqX f r = 120 :: f r
  | [], _ => rfl
  | [_], _ => rfl
  | _ :: _ :: _, h => by simp only [List.length_cons] at h; omega
theorem rqX_len (f : List UInt8 → List UInt8) (hf : ∀ r, (f r).length ≤ r.length) : ∀ r : List UInt8, (rqX f r).length ≤ r.length + 1
  | [] => by have := hf []; show (f []).length + 1 ≤ _; omega
  | [a] => by have := hf [a]; show (f [a]).length + 1 ≤ _; omega
  | a :: b :: r => by have := hf r; show (f r).length + 1 ≤ _; simp only [List.length_cons]; omega
/-- What the reference reads between the quotes. -/
def rqF : Nat → List UInt8 → List UInt8
  | 0, _ => []
  | _ + 1, [] => []
  | k + 1, c :: r => if c = 92 then
      (match r with
       | [] => [92]
       | d :: r => if d = 110 then 10 :: rqF k r else if d = 120 then rqX (rqF k) r else d :: rqF k r)
    else c :: rqF k r
theorem rq_quoB (k : Nat) (c : UInt8) (r : List UInt8) : rqF (k + 1) (quoB c ++ r) = c :: rqF k r := by
  have hc := c.toNat_lt
  unfold quoB
  split
  · rename_i h
    show (if (92 : UInt8) = 92 then (if c = 110 then 10 :: rqF k r else if c = 120 then _ else c :: rqF k r) else _) = _
    have h1 : c ≠ 110 := by rintro rfl; revert h; decide
    have h2 : c ≠ 120 := by rintro rfl; revert h; decide
    rw [if_pos rfl, if_neg h1, if_neg h2]
  · rename_i h1
    split
    · rename_i h
      show (if (92 : UInt8) = 92 then (if (110 : UInt8) = 110 then 10 :: rqF k r else _) else _) = _
      rw [if_pos rfl, if_pos rfl]
      have : c = 10 := UInt8.toNat_inj.1 h
      rw [this]
    · split
      · show (if c = 92 then _ else c :: rqF k r) = _
        rw [if_neg (by rintro rfl; exact h1 (.inr rfl))]
      · show (if (92 : UInt8) = 92 then (if (120 : UInt8) = 110 then _ else if (120 : UInt8) = 120 then rqX (rqF k) (hexD (c.toNat / 16) :: hexD (c.toNat % 16) :: r) else _) else _) = _
        rw [if_pos rfl, if_neg (by decide), if_pos rfl, rqX_two, hxV_hex _ (by omega), hxV_hex _ (by omega), show c.toNat / 16 * 16 + c.toNat % 16 = c.toNat by omega, UInt8.ofNat_toNat]
theorem rq_flat : ∀ (l : List UInt8) (k : Nat), l.length ≤ k → rqF k (l.flatMap quoB) = l
  | [], 0, _ => rfl
  | [], k + 1, _ => rfl
  | c :: l, 0, h => absurd h (Nat.not_succ_le_zero _)
  | c :: l, k + 1, h => by
    rw [List.flatMap_cons, rq_quoB, rq_flat l k (by rw [List.length_cons] at h; omega)]
theorem rq_len : ∀ (k : Nat) (l : List UInt8), (rqF k l).length ≤ l.length
  | 0, _ => Nat.zero_le _
  | _ + 1, [] => Nat.le_refl _
  | k + 1, c :: r => by
    unfold rqF
    split
    · split
      · exact Nat.le_refl _
      · rename_i d r'
        split
        · have := rq_len k r'; simp only [List.length_cons]; omega
        · split
          · have := rqX_len (rqF k) (rq_len k) r'; simp only [List.length_cons]; omega
          · have := rq_len k r'; simp only [List.length_cons]; omega
    · have := rq_len k r; simp only [List.length_cons]; omega
theorem nm_snoc (acc : List UInt8) (x : UInt8) : nm acc ++ [(x.toNat : Int)] = nm (acc ++ [x]) := (nm_app acc [x]).symm
theorem hx_ev (a b : Nat) (ha : a < 16) (hb : b < 16) : (((a : Int) * 16) % 256 + (b : Int)) % 256 = (((UInt8.ofNat (a * 16 + b)).toNat : Nat) : Int) := by
  rw [UInt8.toNat_ofNat']; omega
/-- What the reference does at the end. -/
def unqFin (s : ByteArray) (out : List UInt8) : ByteArray × Bool := if quo out = s.data.toList then (bs out, true) else (⟨#[]⟩, false)
theorem refUnq_end (s : ByteArray) (out : List UInt8) (ho : out.length ≤ 1000000) (k : Nat) (hk : 2 * out.length + 1 ≤ k) :
    ((errataref02_Quote.f k (strOfNums (nm out))).bind fun t134 => (if t134.toList = s.toList then (some (strOfNums (nm out), true)) else (some ((⟨#[]⟩ : ByteArray), false)))) = some (unqFin s out) := by
  rw [str_nm, refQuote (bs out) (by rw [bs_sz]; exact ho) k (by rw [bs_sz]; exact hk), bs_list']
  simp only [Option.bind_some]
  unfold unqFin
  by_cases h : quo out = s.data.toList
  · rw [if_pos h, if_pos (by rw [Lib.toList_data, Lib.toList_data]; exact h)]
  · rw [if_neg h, if_neg (by rw [Lib.toList_data, Lib.toList_data]; exact h)]
theorem unq_two (k : Nat) (s : ByteArray) (acc : List UInt8) (i : Nat) (c : Int) (p q : UInt8) (x : UInt8) (hi : i + 1 < s.size) (hs : s.size ≤ 100000) (ha : acc.length ≤ s.size) (hk : 20 ≤ k) (hp : bt s (i : Int) = (p.toNat : Int)) (hq : bt s ((i + 1 : Nat) : Int) = (q.toNat : Int)) (hx : UInt8.ofNat (hxV p * 16 + hxV q) = x) :
    errataref02_Unquote.j2 (k + 1) s (nm acc) (i : Int) c true = errataref02_Unquote.l0 k s (nm (acc ++ [x])) ((i + 2 : Nat) : Int) := by
  have ha1 := hxV_lt p
  have ha2 := hxV_lt q
  have e1 := refDigit p k hk
  have e2 := refDigit q k hk
  revert ha1 ha2 e1 e2 hx
  generalize hxV p = a
  generalize hxV q = b
  intro hx ha1 ha2 e1 e2
  have ev := hx_ev a b ha1 ha2
  rw [hx] at ev
  simp only [errataref02_Unquote.j2]
  rw [if_pos trivial, if_pos (by omega), if_pos (by omega), hp, e1, Option.bind_some, wrn i (by omega), if_pos (by omega), if_pos (by omega), hq, e2, Option.bind_some, nm_len, if_pos (by omega), ev, nm_snoc, show wrap64 ((i : Int) + 2) = ((i + 2 : Nat) : Int) by rw [wr (by omega) (by omega)]; omega]
theorem refUnq_l0 (s : ByteArray) (h0 : 1 ≤ s.size) (hs : s.size ≤ 100000) : ∀ (j i k : Nat) (acc : List UInt8), s.size - 1 - i ≤ j → 3 * j + 2 * s.size + 40 ≤ k → i ≤ s.size → acc.length ≤ i →
    errataref02_Unquote.l0 k s (nm acc) (i : Int) = some (unqFin s (acc ++ rqF j ((s.data.toList.take (s.size - 1)).drop i))) := by
  have hw : wrap64 ((s.size : Int) - 1) = ((s.size - 1 : Nat) : Int) := by rw [wr (by omega) (by omega)]; omega
  have HW := Aside0.mk hw
  have hMl : (s.data.toList.take (s.size - 1)).length = s.size - 1 := by rw [List.length_take, sz_toList]; omega
  have dM : ∀ i (h : i < s.size - 1), (s.data.toList.take (s.size - 1)).drop i = s[i]'(by omega) :: (s.data.toList.take (s.size - 1)).drop (i + 1) := fun i h => by
    rw [List.drop_eq_getElem_cons (by rw [hMl]; exact h)]
    congr 1
    rw [List.getElem_take]
    rfl
  clear hw
  intro j
  induction j with
  | zero =>
    intro i k acc hj hk hi ha
    obtain ⟨k, rfl⟩ : ∃ m, k = m + 1 := ⟨k - 1, by omega⟩
    simp only [errataref02_Unquote.l0]
    rw [HW.out, if_neg (by omega), refUnq_end s acc (by omega) k (by omega)]
    unfold rqF
    rw [List.append_nil]
  | succ j ih =>
    intro i k acc hj hk hi ha
    by_cases h : i < s.size - 1
    · obtain ⟨k, rfl⟩ : ∃ m, k = m + 3 := ⟨k - 3, by omega⟩
      have w1 := Aside0.mk (wrn i (by omega))
      simp only [errataref02_Unquote.l0]
      rw [HW.out, if_pos (by omega), if_pos (by omega), if_pos (by omega), btn s i (by omega), w1.out, dM i h]
      by_cases h92 : s[i] = 92
      · have e92 : (s[i].toNat : Int) = 92 := by rw [h92]; rfl
        rw [if_pos e92]
        by_cases h1 : i + 1 < s.size - 1
        · have w2 := Aside0.mk (wrn (i + 1) (by omega))
          rw [decide_eq_true (show (((i + 1 : Nat) : Int)) < ((s.size - 1 : Nat) : Int) by omega), dM (i + 1) h1]
          have e : ∀ r, rqF (j + 1) (s[i] :: s[i + 1]'(by omega) :: r) = if s[i + 1]'(by omega) = 110 then 10 :: rqF j r else if s[i + 1]'(by omega) = 120 then rqX (rqF j) r else s[i + 1]'(by omega) :: rqF j r := fun r => if_pos h92
          rw [e]
          simp only [errataref02_Unquote.j1]
          rw [if_pos trivial, if_pos (by omega), if_pos (by omega), btn s (i + 1) (by omega), w2.out]
          by_cases hn : s[i + 1] = 110
          · rw [if_pos (show ((s[i + 1].toNat : Nat) : Int) = 110 by rw [hn]; rfl), if_pos hn, nm_len, if_pos (by omega), show nm acc ++ [10] = nm (acc ++ [10]) from (nm_app acc [10]).symm, ih (i + 1 + 1) (k + 1) (acc ++ [10]) (by omega) (by omega) (by omega) (by rw [List.length_append, List.length_singleton]; omega), List.append_assoc]
            rfl
          · have hn' : ¬ ((s[i + 1].toNat : Nat) : Int) = 110 := fun e => hn (u8_eq (n := 110) (by omega) (by decide))
            rw [if_neg hn', if_neg hn]
            by_cases hx : s[i + 1] = 120
            · have ex : ((s[i + 1].toNat : Nat) : Int) = 120 := by rw [hx]; rfl
              have w3 := Aside0.mk (wrn (i + 1 + 1) (by omega))
              rw [if_pos ex, if_pos hx, w3.out, HW.out]
              by_cases h2 : i + 1 + 1 + 1 < s.size - 1
              · rw [decide_eq_true (show (((i + 1 + 1 + 1 : Nat) : Int)) < ((s.size - 1 : Nat) : Int) by omega), dM (i + 1 + 1) (by omega), dM (i + 1 + 1 + 1) (by omega), rqX_two, show i + 1 + 1 + 1 + 1 = i + 1 + 1 + 2 by omega]
                obtain ⟨z, hz⟩ : ∃ z, UInt8.ofNat (hxV (s[i + 1 + 1]'(by omega)) * 16 + hxV (s[i + 1 + 1 + 1]'(by omega))) = z := ⟨_, rfl⟩
                rw [hz, unq_two k s acc (i + 1 + 1) _ _ _ z (by omega) hs (by omega) (by omega) (btn s (i + 1 + 1) (by omega)) (btn s (i + 1 + 1 + 1) (by omega)) hz, ih (i + 1 + 1 + 2) k _ (by omega) (by omega) (by omega) (by rw [List.length_append, List.length_singleton]; omega), List.append_assoc]
                exact congrArg (fun z => some (unqFin s (acc ++ z))) (List.singleton_append)
              · rw [decide_eq_false (show ¬ (((i + 1 + 1 + 1 : Nat) : Int)) < ((s.size - 1 : Nat) : Int) by omega)]
                simp only [errataref02_Unquote.j2]
                have hl : ((s.data.toList.take (s.size - 1)).drop (i + 1 + 1)).length < 2 := by rw [List.length_drop, hMl]; omega
                have em := rqX_short (rqF j) _ hl
                rw [if_neg (by decide), nm_len, if_pos (by omega), em, ex, show nm acc ++ [120] = nm (acc ++ [120]) from (nm_app acc [120]).symm, ih (i + 1 + 1) k (acc ++ [120]) (by omega) (by omega) (by omega) (by rw [List.length_append, List.length_singleton]; omega), List.append_assoc]
                rfl
            · have hx' : ¬ ((s[i + 1].toNat : Nat) : Int) = 120 := fun e => hx (u8_eq (n := 120) (by omega) (by decide))
              rw [if_neg hx', if_neg hx]
              simp only [errataref02_Unquote.j2]
              rw [if_neg (by decide), nm_len, if_pos (by omega), nm_snoc, ih (i + 1 + 1) k _ (by omega) (by omega) (by omega) (by rw [List.length_append, List.length_singleton]; omega), List.append_assoc]
              rfl
        · rw [decide_eq_false (show ¬ (((i + 1 : Nat) : Int)) < ((s.size - 1 : Nat) : Int) by omega)]
          have hl : (s.data.toList.take (s.size - 1)).drop (i + 1) = [] := List.drop_of_length_le (by rw [hMl]; omega)
          simp only [errataref02_Unquote.j1]
          rw [if_neg (by decide), nm_len, if_pos (by omega), nm_snoc, ih (i + 1) (k + 1) _ (by omega) (by omega) (by omega) (by rw [List.length_append, List.length_singleton]; omega), hl, h92]
          have e1 : rqF (j + 1) [(92 : UInt8)] = [92] := rfl
          have e2 : rqF j [] = [] := by cases j <;> rfl
          rw [e1, e2, List.append_nil]
      · have e92 : ¬ (s[i].toNat : Int) = 92 := fun e => h92 (u8_eq (n := 92) (by omega) (by decide))
        rw [if_neg e92]
        simp only [errataref02_Unquote.j1]
        have e : ∀ r, rqF (j + 1) (s[i] :: r) = s[i] :: rqF j r := fun r => if_neg h92
        rw [if_neg (by decide), nm_len, if_pos (by omega), e, nm_snoc, ih (i + 1) (k + 1) _ (by omega) (by omega) (by omega) (by rw [List.length_append, List.length_singleton]; omega), List.append_assoc]
        rfl
    · have e1 : (s.data.toList.take (s.size - 1)).drop i = [] := List.drop_of_length_le (by rw [hMl]; omega)
      have := ih i k acc (by omega) (by omega) hi ha
      have e2 : ∀ q, rqF q [] = [] := by intro q; cases q <;> rfl
      rw [e1, e2] at this ⊢
      exact this
theorem unq_same (s : ByteArray) (j : Nat) (hj : s.size ≤ j) : unqFin s (rqF j (mid s)) = unqR s := by
  have key : ∀ X : List UInt8, quo X = s.data.toList → mid s = X.flatMap quoB ∧ X.length ≤ s.size := fun X hX => by
    have h1 := mid_quo X
    have hl := congrArg List.length hX
    rw [sz_toList] at hl
    constructor
    · rw [← h1, hX, sz_toList]
      rfl
    · have : X.length ≤ (X.flatMap quoB).length := by
        have pos : ∀ c, 1 ≤ (quoB c).length := fun c => by
          unfold quoB
          repeat' split
          all_goals simp
        clear h1 hl hX
        induction X with
        | nil => exact Nat.le_refl _
        | cons c X ih =>
          have := pos c
          rw [List.flatMap_cons, List.length_append, List.length_cons]
          omega
      have e : (quo X).length = (X.flatMap quoB).length + 2 := by unfold quo; rw [List.length_append, List.length_cons, List.length_singleton]
      omega
  unfold unqFin unqR
  by_cases h1 : quo (rqF j (mid s)) = s.data.toList
  · obtain ⟨k1, _⟩ := key _ h1
    have h2 : unq (mid s) = rqF j (mid s) := by
      conv => lhs; rw [k1]
      exact unq_flat _
    rw [if_pos h1, h2, if_pos h1]
    rfl
  · rw [if_neg h1]
    by_cases h2 : quo (unq (mid s)) = s.data.toList
    · exfalso
      obtain ⟨k1, k2⟩ := key _ h2
      have h3 : rqF j (mid s) = unq (mid s) := by
        conv => lhs; rw [k1]
        exact rq_flat _ j (by omega)
      exact h1 (by rw [h3]; exact h2)
    · rw [if_neg h2]
theorem refUnq (s : ByteArray) (hs : s.size ≤ 100000) (k : Nat) (hk : 5 * s.size + 50 ≤ k) : errataref02_Unquote.f k s = some (unqR s) := by
  unfold errataref02_Unquote.f
  have hm : mid s = (s.data.toList.take (s.size - 1)).drop 1 := by
    unfold mid
    rw [List.drop_take, show s.size - 1 - 1 = s.size - 2 by omega]
  by_cases h0 : s.size = 0
  · obtain ⟨k, rfl⟩ : ∃ m, k = m + 1 := ⟨k - 1, by omega⟩
    have e := refUnq_end s [] (by show 0 ≤ _; omega) k (by show 1 ≤ k; omega)
    simp only [errataref02_Unquote.l0]
    rw [h0, if_neg (by rw [wr (by omega) (by omega)]; omega)]
    have e2 : mid s = [] := by rw [hm]; exact List.drop_of_length_le (by rw [List.length_take, sz_toList]; omega)
    have e3 := unq_same s (s.size) (Nat.le_refl _)
    have e4 : rqF s.size (mid s) = [] := by rw [e2]; cases s.size <;> rfl
    rw [e4] at e3
    rw [← e3]
    exact e
  · rw [← unq_same s (s.size) (Nat.le_refl _), hm]
    exact refUnq_l0 s (by omega) hs s.size 1 k [] (by omega) (by omega) (by omega) (Nat.zero_le _)
end Go.Proofs.YtfefbnfmngdicaaDoor.PX

/- What the reference's lexer's parts compute, plainly. -/
namespace Go.Proofs.YtfefbnfmngdicaaDoor.PX
set_option linter.unusedVariables false
set_option linter.unusedSimpArgs false
open Go.RowKit Go.Proofs.YtfefbnfmngdicaaDoorW.PrintWords

theorem refPart (c : UInt8) : errataref17_part.f (c.toNat : Int) = some (ptI (c.toNat : Int)) := by
  have e := all_u8 (fun c => errataref17_part.f (c.toNat : Int) == some (ptI (c.toNat : Int))) (by decide +kernel) c
  exact beq_iff_eq.1 e
theorem refDig (c : Int) : errataref17_digit.f c = some (digI c) := by
  unfold errataref17_digit.f digI
  by_cases h : c ≥ 48
  · rw [if_pos h, decide_eq_true (show (48 : Int) ≤ c from h), Bool.true_and]
  · rw [if_neg h, decide_eq_false (show ¬ (48 : Int) ≤ c from h), Bool.false_and]
theorem refWord (s : ByteArray) (hs : s.size ≤ 100000) : ∀ (j i k : Nat), s.size - i ≤ j → j + 1 ≤ k → i ≤ s.size → errataref17_word.l0 k s (i : Int) = some ((i + wn (s.data.toList.drop i) : Nat) : Int) := by
  intro j
  induction j with
  | zero =>
    intro i k hj hk hi
    obtain ⟨k, rfl⟩ : ∃ m, k = m + 1 := ⟨k - 1, by omega⟩
    simp only [errataref17_word.l0]
    rw [if_neg (by omega), List.drop_of_length_le (by rw [sz_toList]; omega)]
    rfl
  | succ j ih =>
    intro i k hj hk hi
    by_cases h : i < s.size
    · obtain ⟨k, rfl⟩ : ∃ m, k = m + 1 := ⟨k - 1, by omega⟩
      simp only [errataref17_word.l0]
      rw [if_pos (by omega), if_pos (by omega), btn s i h, refPart, Option.bind_some, dropC s i h]
      cases hp : ptI (s[i].toNat : Int) with
      | true =>
        rw [if_pos rfl, wrn i (by omega), ih (i + 1) k (by omega) (by omega) (by omega), wn_cons_t _ _ hp]
        congr 2
        omega
      | false =>
        rw [if_neg (by decide), wn_cons_f _ _ hp]
        rfl
    · exact ih i k (by omega) (by omega) hi
theorem refWord_f (s : ByteArray) (hs : s.size ≤ 100000) (i k : Nat) (hi : i ≤ s.size) (hk : s.size + 1 ≤ k) : errataref17_word.f k s (i : Int) = some ((i + wn (s.data.toList.drop i) : Nat) : Int) :=
  refWord s hs s.size i k (by omega) (by omega) hi

theorem dw_nil (p : UInt8 → Bool) : ∀ l : List UInt8, l.dropWhile p = [] → ∀ c ∈ l, p c = true
  | [], _, _, h => by cases h
  | d :: l, h, c, hc => by
    rw [List.dropWhile_cons] at h
    split at h
    · rename_i hd
      rcases List.mem_cons.1 hc with rfl | hc
      · exact hd
      · exact dw_nil p l h c hc
    · cases h
theorem trimS_nil (l cs : List UInt8) (h : Lib.trimS l cs = []) : ∀ c ∈ l, cs.contains c = true := by
  unfold Lib.trimS Lib.trimLeftS Lib.trimRightS at h
  have h1 := dw_nil _ _ h
  by_cases he : l.reverse.dropWhile (cs.contains ·) = []
  · intro c hc
    exact dw_nil _ _ he c (List.mem_reverse.2 hc)
  · exfalso
    obtain ⟨d, r, e⟩ : ∃ d r, l.reverse.dropWhile (cs.contains ·) = d :: r := by
      cases hx : l.reverse.dropWhile (cs.contains ·) with
      | nil => exact absurd hx he
      | cons d r => exact ⟨d, r, rfl⟩
    have h2 : cs.contains d = false := by
      have : ∀ (m : List UInt8), m.dropWhile (cs.contains ·) = d :: r → cs.contains d = false := by
        intro m
        induction m with
        | nil => intro h; cases h
        | cons x m ih =>
          intro h
          rw [List.dropWhile_cons] at h
          split at h
          · exact ih h
          · rename_i hx
            injection h with h _
            rw [← h]
            simpa using hx
      exact this _ e
    have h3 := h1 d (by rw [e]; exact List.mem_reverse.2 List.mem_cons_self)
    rw [h2] at h3
    cases h3
/-- What the reference's number is. -/
def numR (t : ByteArray) : Int × ByteArray × Int × Int × Int :=
  if Lib.trimS t.data.toList digs.data.toList ≠ [] ∨ (1 < t.data.toList.length ∧ t.data.toList.head? = some 48) then (0, ⟨#[]⟩, 0, 0, 11)
  else if (intOf64 t.data.toList).2 = true then (1, t, (intOf64 t.data.toList).1, 0, 0) else (0, ⟨#[]⟩, 0, 0, 3)
theorem refNumber (t : ByteArray) (hs : t.size ≤ 100000) : ∀ (j i k : Nat), t.size - i ≤ j → j + 300 ≤ k → i ≤ t.size → (∀ c ∈ t.data.toList.take i, digI (c.toNat : Int) = true) → errataref17_number.l0 k t (i : Int) = some (numR t) := by
  intro j
  induction j with
  | zero =>
    intro i k hj hk hi hd
    obtain ⟨k, rfl⟩ : ∃ m, k = m + 2 := ⟨k - 2, by omega⟩
    rw [List.take_of_length_le (by rw [sz_toList]; omega)] at hd
    have htr : Lib.trimS t.data.toList digs.data.toList = [] := trimS_all _ _ (fun c hc => by rw [dig_set]; exact hd c hc)
    have hlen : t.data.toList.length = t.size := sz_toList t
    simp only [errataref17_number.l0]
    rw [if_neg (by omega)]
    have fin : ∀ b : Bool, (b = true ↔ (1 < t.data.toList.length ∧ t.data.toList.head? = some 48)) → errataref17_number.j1 (k + 1) t b = some (numR t) := by
      intro b hb
      simp only [errataref17_number.j1]
      unfold numR
      by_cases h : 1 < t.data.toList.length ∧ t.data.toList.head? = some 48
      · rw [hb.2 h, if_pos rfl, if_pos (.inr h)]
      · have hbf : b = false := by
          cases b with
          | true => exact absurd (hb.1 rfl) h
          | false => rfl
        rw [hbf, if_neg (by decide), if_neg (by rintro (h' | h'); exact h' htr; exact h h'), refInt t k (by omega), Option.bind_some]
        by_cases ho : (intOf64 t.data.toList).2 = true
        · rw [if_pos ho, if_pos ho]
        · rw [if_neg ho, if_neg ho]
    by_cases h1 : (t.size : Int) > 1
    · rw [if_pos h1, if_pos (by omega)]
      refine fin _ ?_
      have hb : bt t 0 = 48 ↔ t.data.toList.head? = some 48 := bt_head t (by omega) 48
      rw [beq_iff_eq, hb]
      constructor
      · intro h; exact ⟨by omega, h⟩
      · intro h; exact h.2
    · rw [if_neg h1]
      refine fin _ ?_
      constructor
      · intro h; cases h
      · intro h; omega
  | succ j ih =>
    intro i k hj hk hi hd
    by_cases h : i < t.size
    · obtain ⟨k, rfl⟩ : ∃ m, k = m + 1 := ⟨k - 1, by omega⟩
      simp only [errataref17_number.l0]
      rw [if_pos (by omega), if_pos (by omega), btn t i h, refDig, Option.bind_some]
      cases hg : digI (t[i].toNat : Int) with
      | true =>
        rw [if_pos rfl, wrn i (by omega)]
        refine ih (i + 1) k (by omega) (by omega) (by omega) ?_
        rw [take_snoc t i h]
        intro c hc
        rcases List.mem_append.1 hc with hc | hc
        · exact hd c hc
        · rw [List.mem_singleton.1 hc]; exact hg
      | false =>
        rw [if_neg (by decide)]
        unfold numR
        rw [if_pos (.inl (fun e => by
          have hm : t[i] ∈ t.data.toList := by
            have : t[i] = t.data.toList[i]'(by rw [sz_toList]; exact h) := rfl
            rw [this]; exact List.getElem_mem _
          have := trimS_nil _ _ e t[i] hm
          rw [dig_set, hg] at this
          cases this))]
    · exact ih i k (by omega) (by omega) hi hd
theorem refNumber_f (t : ByteArray) (hs : t.size ≤ 100000) (k : Nat) (hk : t.size + 300 ≤ k) : errataref17_number.f k t = some (numR t) :=
  refNumber t hs t.size 0 k (by omega) (by omega) (by omega) (fun c hc => by rw [List.take_zero] at hc; cases hc)

/-- What the reference's quoted is. -/
def quoR (s : ByteArray) (i : Nat) : Int × ByteArray × Int × Int × Int × Int :=
  match qtR s i with
  | none => (0, ⟨#[]⟩, 0, 0, 0, 11)
  | some (j, t) => (2, t, 0, 0, (j : Int), 0)
theorem refQuoted (s : ByteArray) (hs : s.size ≤ 10000) (i : Nat) (hi : i < s.size) (E : Nat) (hE : i + 1 + qz (s.data.toList.drop (i + 1)) = E) :
    ∀ (q j k back : Nat), s.size - j ≤ q → 2 * q + 5 * s.size + 100 ≤ k → i < j → j ≤ s.size → back ≤ j → (back % 2 = 0 → j + qz (s.data.toList.drop j) = E) → (back % 2 = 1 → j + 1 + qz (s.data.toList.drop (j + 1)) = E) →
    errataref17_quoted.l0 k s (i : Int) (back : Int) (j : Int) = some (quoR s i) := by
  intro q
  induction q with
  | zero =>
    intro j k back hq hk hij hj hbk h0 h1
    obtain ⟨k, rfl⟩ : ∃ m, k = m + 1 := ⟨k - 1, by omega⟩
    have hge : s.size ≤ E := by
      rcases Nat.mod_two_eq_zero_or_one back with h | h
      · have := h0 h; omega
      · have := h1 h; omega
    simp only [errataref17_quoted.l0]
    rw [if_neg (by omega)]
    unfold quoR qtR
    rw [hE, if_neg (by omega)]
  | succ q ih =>
    intro j k back hq hk hij hj hbk h0 h1
    by_cases h : j < s.size
    · obtain ⟨k, rfl⟩ : ∃ m, k = m + 3 := ⟨k - 3, by omega⟩
      have hd := dropC s j h
      have hdd : (s.data.toList.drop (j + 1)).drop 1 = s.data.toList.drop (j + 1 + 1) := by rw [List.drop_drop]
      have hmod : Int.tmod (back : Int) 2 = ((back % 2 : Nat) : Int) := by rw [Int.tmod_eq_emod_of_nonneg (by omega)]; omega
      have rest : ¬ (s[j] = 34 ∧ back % 2 = 0) → errataref17_quoted.j1 (k + 2) s (i : Int) (back : Int) (j : Int) false = some (quoR s i) := by
        intro hn
        simp only [errataref17_quoted.j1]
        rw [if_neg (by decide), if_pos (by omega), if_pos (by omega), btn s j h]
        by_cases h92 : s[j] = 92
        · rw [if_pos (show (s[j].toNat : Int) = 92 by rw [h92]; rfl), wrn back (by omega), wrn j (by omega)]
          refine ih (j + 1) (k + 1) (back + 1) (by omega) (by omega) (by omega) (by omega) (by omega) (fun he => ?_) (fun ho => ?_)
          · exact h1 (by omega)
          · have := h0 (by omega)
            rw [hd, h92, qz_esc, hdd] at this
            omega
        · rw [if_neg (show ¬ (s[j].toNat : Int) = 92 from fun e => h92 (u8_eq (n := 92) (by omega) (by decide))), wrn j (by omega)]
          refine ih (j + 1) (k + 1) 0 (by omega) (by omega) (by omega) (by omega) (by omega) (fun he => ?_) (fun ho => by omega)
          rcases Nat.mod_two_eq_zero_or_one back with hb | hb
          · have := h0 hb
            rw [hd, qz_one _ _ (fun e => hn ⟨e, hb⟩) h92] at this
            omega
          · exact h1 hb
      simp only [errataref17_quoted.l0]
      rw [if_pos (by omega), if_pos (by omega), btn s j h]
      by_cases h34 : s[j] = 34
      · rw [if_pos (show (s[j].toNat : Int) = 34 by rw [h34]; rfl), hmod]
        by_cases hb : back % 2 = 0
        · have hjE : E = j := by
            have := h0 hb
            rw [qz_stop (s.data.toList.drop j) (.inr (by rw [hd, h34]; rfl))] at this
            omega
          have hes : (s.extract i (j + 1)).size ≤ s.size := by rw [ByteArray.size_extract]; omega
          rw [show (((back % 2 : Nat) : Int) == 0) = true from beq_iff_eq.2 (by omega)]
          simp only [errataref17_quoted.j1]
          rw [if_pos trivial, wrn j (by omega), if_pos (by omega), if_pos (by omega), if_pos (by omega), Int.toNat_natCast, Int.toNat_natCast, refUnq _ (by omega) (k + 1) (by omega), Option.bind_some]
          have hq : quoR s i = if (unqR (s.extract i (j + 1))).2 = true ∧ (unqR (s.extract i (j + 1))).1.size ≤ 200 then (2, (unqR (s.extract i (j + 1))).1, 0, 0, ((j + 1 : Nat) : Int), 0) else (0, ⟨#[]⟩, 0, 0, 0, 11) := by
            unfold quoR qtR
            rw [hE, hjE, if_pos h]
            by_cases hc : (unqR (s.extract i (j + 1))).2 = true ∧ (unqR (s.extract i (j + 1))).1.size ≤ 200
            · rw [if_pos hc, if_pos hc]
            · rw [if_neg hc, if_neg hc]
          rw [hq]
          by_cases ho : (unqR (s.extract i (j + 1))).2 = true
          · rw [if_pos ho]
            simp only [errataref17_quoted.j2]
            by_cases hz : (unqR (s.extract i (j + 1))).1.size ≤ 200
            · rw [decide_eq_false (show ¬ (((unqR (s.extract i (j + 1))).1.size : Int)) > 200 by omega), if_neg (by decide), if_pos ⟨ho, hz⟩, wrn j (by omega)]
            · rw [decide_eq_true (show (((unqR (s.extract i (j + 1))).1.size : Int)) > 200 by omega), if_pos rfl, if_neg (fun x => hz x.2)]
          · rw [if_neg ho]
            simp only [errataref17_quoted.j2]
            rw [if_pos trivial, if_neg (fun x => ho x.1)]
        · rw [show (((back % 2 : Nat) : Int) == 0) = false from beq_eq_false_iff_ne.2 (by omega)]
          exact rest (fun x => hb x.2)
      · rw [if_neg (show ¬ (s[j].toNat : Int) = 34 from fun e => h34 (u8_eq (n := 34) (by omega) (by decide)))]
        exact rest (fun x => h34 x.1)
    · exact ih j k back (by omega) (by omega) hij hj hbk h0 h1
theorem refQuoted_f (s : ByteArray) (hs : s.size ≤ 10000) (i : Nat) (hi : i < s.size) (k : Nat) (hk : 8 * s.size + 200 ≤ k) : errataref17_quoted.f k s (i : Int) = some (quoR s i) := by
  unfold errataref17_quoted.f
  rw [wrn i (by omega)]
  exact refQuoted s hs i hi _ rfl s.size (i + 1) k 0 (by omega) (by omega) (by omega) (by omega) (by omega) (fun _ => rfl) (fun h => by omega)
end Go.Proofs.YtfefbnfmngdicaaDoor.PX

/- What the reference's token is, plainly. -/
namespace Go.Proofs.YtfefbnfmngdicaaDoor.PX
set_option linter.unusedVariables false
set_option linter.unusedSimpArgs false
open Go.RowKit Go.Proofs.YtfefbnfmngdicaaDoorW.PrintWords

def opG (c : UInt8) (p q : Bool) : Option (List UInt8) :=
  if (33 == c && p) = true then some [33, 61] else if (60 == c && p) = true then some [60, 61] else if (62 == c && p) = true then some [62, 61] else if (43 == c && q) = true then some [43, 43]
  else if (61 == c && true) = true then some [61] else if (60 == c && true) = true then some [60] else if (62 == c && true) = true then some [62] else if (43 == c && true) = true then some [43] else if (45 == c && true) = true then some [45]
  else if (42 == c && true) = true then some [42] else if (47 == c && true) = true then some [47] else if (37 == c && true) = true then some [37] else if (40 == c && true) = true then some [40] else if (41 == c && true) = true then some [41]
  else if (44 == c && true) = true then some [44] else if (46 == c && true) = true then some [46] else if (58 == c && true) = true then some [58] else if (63 == c && true) = true then some [63] else none
theorem opF_G (c : UInt8) (r : List UInt8) : opF opl (c :: r) = opG c (List.isPrefixOf [61] r) (List.isPrefixOf [43] r) := rfl
def opNG (c : UInt8) (p q : Bool) : Int := if (((((c.toNat : Int) == 33 || (c.toNat : Int) == 60) || (c.toNat : Int) == 62) && p) || ((c.toNat : Int) == 43 && q)) = true then 2 else opI opAll.data.toList (c.toNat : Int)
theorem opNG_G (c : UInt8) (p q : Bool) : opNG c p q = (match opG c p q with | none => 0 | some o => (o.length : Int)) := by
  have h : ∀ p q : Bool, (∀ c : UInt8, (opNG c p q == (match opG c p q with | none => 0 | some o => (o.length : Int))) = true) := by
    intro p q c
    cases p <;> cases q
    · exact all_u8 (fun c => opNG c false false == (match opG c false false with | none => 0 | some o => (o.length : Int))) (by decide +kernel) c
    · exact all_u8 (fun c => opNG c false true == (match opG c false true with | none => 0 | some o => (o.length : Int))) (by decide +kernel) c
    · exact all_u8 (fun c => opNG c true false == (match opG c true false with | none => 0 | some o => (o.length : Int))) (by decide +kernel) c
    · exact all_u8 (fun c => opNG c true true == (match opG c true true with | none => 0 | some o => (o.length : Int))) (by decide +kernel) c
  exact beq_iff_eq.1 (h p q c)
theorem opD_pre (s : ByteArray) (i : Nat) (d : UInt8) (hd : d ≠ 0) : (opD s i == (d.toNat : Int)) = List.isPrefixOf [d] (s.data.toList.drop (i + 1)) := by
  unfold opD
  by_cases h : i + 1 < s.size
  · rw [dif_pos h, dropC s (i + 1) h]
    show _ = (d == s[i + 1] && true)
    rw [Bool.and_true, Bool.eq_iff_iff, beq_iff_eq, beq_iff_eq]
    constructor
    · intro e; exact (UInt8.toNat_inj.1 (by omega)).symm
    · intro e; rw [e]
  · rw [dif_neg h, List.drop_of_length_le (by rw [sz_toList]; omega)]
    show ((0 : Int) == (d.toNat : Int)) = false
    rw [beq_eq_false_iff_ne]
    intro e
    exact hd (UInt8.toNat_inj.1 (show d.toNat = (0 : UInt8).toNat by show d.toNat = 0; omega))
theorem opN_F (s : ByteArray) (i : Nat) (h : i < s.size) : opN (s[i].toNat : Int) (opD s i) = (match opF opl (s.data.toList.drop i) with | none => 0 | some o => (o.length : Int)) := by
  rw [dropC s i h, opF_G, ← opNG_G]
  have h1 : (opD s i == 61) = List.isPrefixOf [61] (s.data.toList.drop (i + 1)) := opD_pre s i 61 (by decide)
  have h2 : (opD s i == 43) = List.isPrefixOf [43] (s.data.toList.drop (i + 1)) := opD_pre s i 43 (by decide)
  unfold opN opB opNG
  rw [h1, h2]
theorem pre_take : ∀ (o l : List UInt8), o.isPrefixOf l = true → l.take o.length = o
  | [], _, _ => rfl
  | _ :: _, [], h => by cases h
  | a :: o, b :: l, h => by
    have h' : (a == b && o.isPrefixOf l) = true := h
    rw [Bool.and_eq_true, beq_iff_eq] at h'
    rw [List.length_cons, List.take_succ_cons, pre_take o l h'.2, h'.1]
theorem refOp (s : ByteArray) (hs : s.size ≤ 1000000000) (i : Nat) (h : i < s.size) : errataref17_operator.f s (i : Int) = some (match opF opl (s.data.toList.drop i) with | none => 0 | some o => (o.length : Int)) := by
  rw [← opN_F s i h]
  unfold errataref17_operator.f
  rw [dif_pos ⟨by omega, by rw [Int.toNat_natCast]; exact h, hs⟩]
  rfl
/-- What the reference's token returns at a place; the end that it returns with an error is none's. -/
def TokR (s : ByteArray) (i : Nat) (x : Int × ByteArray × Int × Int × Int × Int) : Prop :=
  match tokF (s.data.toList.drop i) with
  | .error e => ∃ E, x = (0, ⟨#[]⟩, 0, 0, E, e)
  | .ok (kd, t, m, n) => x = (kd, bs t, m, 0, ((i + n : Nat) : Int), 0)
theorem refToken (s : ByteArray) (hs : s.size ≤ 8000) (i : Nat) (h : i < s.size) (k : Nat) (hk : 100000 ≤ k) : ∃ x, errataref17_token.f k s (i : Int) = some x ∧ TokR s i x := by
  have hd := dropC s i h
  unfold errataref17_token.f TokR
  rw [if_neg (by omega), if_pos (by omega), if_pos (by omega), btn s i h]
  by_cases hp : ptI (s[i].toNat : Int) = true
  · have h10 : ¬ (s[i].toNat : Int) = 10 := fun e => by rw [e] at hp; revert hp; decide
    have h34 : ¬ (s[i].toNat : Int) = 34 := fun e => by rw [e] at hp; revert hp; decide
    have hwl := wn_le (s.data.toList.drop i)
    rw [List.length_drop, sz_toList] at hwl
    have hw1 : 1 ≤ wn (s.data.toList.drop i) := by rw [hd, wn_cons_t _ _ hp]; omega
    rw [if_neg h10, if_neg h34, refPart, Option.bind_some, hp, if_pos rfl, refWord_f s (by omega) i k (by omega) (by omega), Option.bind_some, if_pos (by omega), if_pos (by omega), refDig, Option.bind_some, Int.toNat_natCast, Int.toNat_natCast]
    have hx := ext_bs s i (wn (s.data.toList.drop i))
    have ht : tokF (s.data.toList.drop i) = match wdL ((s.data.toList.drop i).take (wn (s.data.toList.drop i))) with
       | .error e => .error e
       | .ok (k, m) => .ok (k, (s.data.toList.drop i).take (wn (s.data.toList.drop i)), m, wn (s.data.toList.drop i)) := by
      conv => lhs; rw [hd]
      unfold tokF
      simp only
      rw [if_pos hp, ← hd]
      all_goals rfl
    have hhd : hdI ((s.data.toList.drop i).take (wn (s.data.toList.drop i))) = (s[i].toNat : Int) := by
      obtain ⟨q, hq⟩ : ∃ q, wn (s.data.toList.drop i) = q + 1 := ⟨wn (s.data.toList.drop i) - 1, by omega⟩
      rw [hq, hd]
      rfl
    rw [ht, hx]
    have htl : ((s.data.toList.drop i).take (wn (s.data.toList.drop i))).length ≤ 8000 := by rw [List.length_take]; omega
    have hnz : ((s.data.toList.drop i).take (wn (s.data.toList.drop i))).length = wn (s.data.toList.drop i) := by rw [List.length_take, List.length_drop, sz_toList]; omega
    have hall : ∀ c ∈ (s.data.toList.drop i).take (wn (s.data.toList.drop i)), ptI (c.toNat : Int) = true := by
      have gen : ∀ l : List UInt8, ∀ c ∈ l.take (wn l), ptI (c.toNat : Int) = true := by
        intro l
        induction l with
        | nil => intro c hc; cases hc
        | cons a l ih =>
          cases ha : ptI (a.toNat : Int) with
          | true =>
            rw [wn_cons_t a l ha, List.take_succ_cons]
            intro c hc
            rcases List.mem_cons.1 hc with rfl | hc
            · exact ha
            · exact ih c hc
          | false =>
            rw [wn_cons_f a l ha]
            intro c hc
            cases hc
      exact gen _
    revert hhd htl hnz hall
    generalize hT : (s.data.toList.drop i).take (wn (s.data.toList.drop i)) = T
    intro hhd htl hnz hall
    cases hg : digI (s[i].toNat : Int) with
    | true =>
      rw [if_pos rfl, refNumber_f (bs T) (by rw [bs_sz]; omega) k (by rw [bs_sz]; omega), Option.bind_some]
      refine ⟨_, rfl, ?_⟩
      unfold numR wdL
      rw [hhd, hg, if_pos rfl, bs_list']
      by_cases hc : Lib.trimS T digs.data.toList ≠ [] ∨ 1 < T.length ∧ T.head? = some 48
      · rw [if_pos hc, if_pos hc]
        exact ⟨_, rfl⟩
      · rw [if_neg hc, if_neg hc]
        by_cases ho : (intOf64 T).2 = true
        · rw [if_pos ho, if_pos ho]
        · rw [if_neg ho, if_neg ho]
          exact ⟨_, rfl⟩
    | false =>
      rw [if_neg (by decide)]
      have hnm : nameOk T = decide (T.length ≤ 20) := by
        cases T with
        | nil => rw [List.length_nil] at hnz; omega
        | cons a T =>
          have ha : digI (a.toNat : Int) = false := by rw [show (a.toNat : Int) = hdI (a :: T) from rfl, hhd]; exact hg
          show (decide ((a :: T).length ≤ 20) && !digI (a.toNat : Int) && nmAll (a :: T)) = _
          have hall2 : nmAll (a :: T) = true := by
            unfold nmAll
            rw [List.all_eq_true]
            intro c hc
            rw [← ptX]
            exact hall c hc
          rw [ha, hall2]
          simp
      unfold wdL
      rw [hhd, hg, if_neg (show ¬ (false = true) by decide), hnm, bs_sz]
      by_cases h20 : T.length ≤ 20
      · rw [if_neg (by omega), decide_eq_true h20, if_pos rfl]
        exact ⟨_, rfl, rfl⟩
      · rw [if_pos (by omega), decide_eq_false h20, if_neg (by decide)]
        exact ⟨_, rfl, _, rfl⟩
  · by_cases h34 : s[i] = 34
    · have e34 : (s[i].toNat : Int) = 34 := by rw [h34]; rfl
      have ht : tokF (s.data.toList.drop i) = match qtL (s.data.toList.drop i) with
         | none => .error 11
         | some (t, n) => .ok (2, t, 0, n) := by
        conv => lhs; rw [hd]
        unfold tokF
        simp only
        rw [if_neg hp, if_pos h34, ← hd]
        all_goals rfl
      rw [if_neg (by omega), if_pos e34, refQuoted_f s (by omega) i h k (by omega), Option.bind_some]
      refine ⟨_, rfl, ?_⟩
      rw [ht]
      unfold quoR
      rw [qt_eq s i h]
      rcases hq : qtL (s.data.toList.drop i) with _ | ⟨t, n⟩
      · exact ⟨_, rfl⟩
      · rfl
    · have e34 : ¬ (s[i].toNat : Int) = 34 := fun e => h34 (u8_eq (n := 34) (by omega) (by decide))
      by_cases h10 : s[i] = 10
      · have e10 : (s[i].toNat : Int) = 10 := by rw [h10]; rfl
        have ht : tokF (s.data.toList.drop i) = .ok (4, [], 0, 1) := by rw [hd, h10]; exact tok10 _
        rw [if_pos e10, wrn i (by omega)]
        refine ⟨_, rfl, ?_⟩
        rw [ht]
        rfl
      · have e10 : ¬ (s[i].toNat : Int) = 10 := fun e => h10 (u8_eq (n := 10) (by omega) (by decide))
        have ht : tokF (s.data.toList.drop i) = match opF opl (s.data.toList.drop i) with
           | none => .error 11
           | some o => .ok (3, o, 0, o.length) := by
          conv => lhs; rw [hd]
          unfold tokF
          simp only
          rw [if_neg hp, if_neg h34, if_neg h10, ← hd]
          all_goals rfl
        have hpf : ptI (s[i].toNat : Int) = false := by simpa using hp
        rw [if_neg e10, if_neg e34, refPart, Option.bind_some, hpf, if_neg (by decide), refOp s (by omega) i h, Option.bind_some, ht]
        rcases hq : opF opl (s.data.toList.drop i) with _ | o
        · rw [if_pos rfl]
          exact ⟨_, rfl, _, rfl⟩
        · obtain ⟨hm, hpre⟩ := opF_mem _ _ _ hq
          have hpos := opl_pos o hm
          have hsh := opl_short o hm
          have hle := pre_len _ _ hpre
          rw [List.length_drop, sz_toList] at hle
          have htk := pre_take _ _ hpre
          have hw : wrap64 ((i : Int) + (o.length : Int)) = ((i + o.length : Nat) : Int) := by rw [wr (by omega) (by omega)]; omega
          simp only
          rw [if_neg (by omega), hw, if_pos (by omega), if_pos (by omega), Int.toNat_natCast, Int.toNat_natCast, ext_bs, htk]
          exact ⟨_, rfl, rfl⟩
theorem refToken_end (s : ByteArray) (k : Nat) : errataref17_token.f k s (s.size : Int) = some (5, ⟨#[]⟩, 0, 0, (s.size : Int), 0) := by
  unfold errataref17_token.f
  rw [if_pos (by omega)]
end Go.Proofs.YtfefbnfmngdicaaDoor.PX

/- errataref17.Lex, walked by hand: it returns what lex.Lex returns. -/
namespace Go.Proofs.YtfefbnfmngdicaaDoor.PX
set_option linter.unusedVariables false
set_option linter.unusedSimpArgs false
open Go.RowKit Go.Proofs.YtfefbnfmngdicaaDoorW.PrintWords Go.Proofs.YtfefbnfmngdicaaDoorW.PrintLast Go.Proofs.YtfefbnfmngdicaaDoorW.PrintMore

theorem lexA_skp (l l' : List UInt8) (ln : Int) (ts : List S43) (h : skp l = skp l') : lexA l ln ts = lexA l' ln ts := by
  have e := lexN_skp l l' ln ts.length h
  unfold lexN at e
  unfold lexA
  rw [e]
theorem white_t (c : UInt8) (h : c = 32 ∨ c = 9 ∨ c = 13) : errataref17_white.f (c.toNat : Int) = some true := by
  rcases h with rfl | rfl | rfl <;> rfl
theorem white_f (c : UInt8) (h : ¬ (c = 32 ∨ c = 9 ∨ c = 13)) : errataref17_white.f (c.toNat : Int) = some false := by
  unfold errataref17_white.f
  rw [if_neg (fun e => h (.inl (u8_eq (n := 32) (by omega) (by decide)))), if_neg (fun e => h (.inr (.inl (u8_eq (n := 9) (by omega) (by decide)))))]
  exact congrArg some (beq_eq_false_iff_ne.2 (fun e => h (.inr (.inr (u8_eq (n := 13) (by omega) (by decide))))))
set_option maxHeartbeats 4000000 in
set_option maxRecDepth 100000 in
theorem rlex_walk (src : ByteArray) (w : World) (hs : src.size ≤ 8000) :
    Calls Tryd.prog 30 #[.string src] w fun e w' => LexDid src w e w' := by
  have d8 : ¬ (8000 : Int) < (src.size : Int) := by omega
  go_enter Tryd.func30, Tryd.ntmps30
  go_wp2_with fail
  go_loopg [5, 6, 7] (src.size + 1) (fun nn v5 v6 v7 wr => ∃ (j : Nat) (ln : Int) (ts : List S43), nn = src.size + 1 - j ∧ v6 = .int .i64 ln ∧ v7 = .int .i64 j ∧ j ≤ src.size ∧ ts.length ≤ 3000 ∧ 0 ≤ ln ∧ ln ≤ (j : Int) + 1 ∧ Aside0 (lexA (src.data.toList.drop j) ln ts = lexA src.data.toList 1 []) ∧ Aside0 (Kd.R k43 43 wr w.heap.size (fun _ => True) v5 ts) ∧ Below w.heap.size w wr)
  case atStart => exact ⟨0, 1, [], rfl, rfl, rfl, Nat.zero_le _, Nat.zero_le _, by omega, by omega, ⟨rfl⟩, ⟨Kd.R_nil _ _ _ _ _⟩, Below.refl _ _⟩
  case round =>
    obtain ⟨j, ln, ts, rfl, rfl, rfl, hj, hl, hl0, hl1, hq, hR, hB⟩ := hrel
    obtain ⟨A, c, rfl⟩ := Kd.R_slice hR.out
    obtain ⟨wo, rfl⟩ : ∃ wo : World, wo = wr := ⟨_, rfl⟩
    have t0 : (j : Int) ≤ (src.size : Int) := by omega
    have j0 : (0 : Int) ≤ (j : Int) := by omega
    have p1 : IntKind.i64.wrap ((j : Int) + 1) = ((j + 1 : Nat) : Int) := by rw [w64x (by omega) (by omega)]; omega
    by_cases hlt : j < src.size
    · have j1 : (j : Int) < (src.size : Int) := by omega
      have hd := dropC src j hlt
      by_cases hw : src[j] = 32 ∨ src[j] = 9 ∨ src[j] = 13
      · have hwf := Aside0.mk (white_t _ hw)
        have hq2 : Aside0 (lexA (src.data.toList.drop (j + 1)) ln ts = lexA src.data.toList 1 []) := ⟨by
          rw [← hq.out, hd]
          exact (lexA_skp _ _ _ _ (skp_white _ _ hw)).symm⟩
        clear hw hd
        go_wp2_with fail
        refine (errataref17_white.calls _ true _ hwf.out).mono ?_
        rintro e w1 ⟨rfl, hdr⟩
        have hb1 := hdr.below
        have hB1 := below_step hB hb1
        have hR1 := Aside0.mk (Kd.R_below hR.out hb1)
        go_wp2_with fail
        go_roundg (src.size + 1 - (j + 1))
        case measure => omega
        case rel => exact ⟨j + 1, ln, ts, rfl, rfl, rfl, by omega, hl, hl0, by omega, hq2, hR1, hB1⟩
      · have hwf := Aside0.mk (white_f _ hw)
        by_cases h35 : src[j] = 35
        · have e35 : ((src[j].toNat : Int) == 35) = true := by rw [h35]; rfl
          have hle := lfAt_le (src.data.toList.drop j)
          rw [List.length_drop, sz_toList] at hle
          have hpos : 1 ≤ lfAt (src.data.toList.drop j) := by rw [hd, h35, lfAt_hash]; omega
          have hq2 : Aside0 (lexA (src.data.toList.drop (j + lfAt (src.data.toList.drop j))) ln ts = lexA src.data.toList 1 []) := ⟨by
            rw [← hq.out, ← List.drop_drop]
            refine (lexA_skp _ _ _ _ ?_).symm
            conv => lhs; rw [hd, h35, skp_hash]
            rw [← h35, ← hd]⟩
          have hm : Aside0 (j + lfAt (src.data.toList.drop j) = j + lfAt (src.data.toList.drop j)) := ⟨rfl⟩
          clear hw h35
          go_wp2_with fail
          refine (errataref17_white.calls _ false _ hwf.out).mono ?_
          rintro e w1 ⟨rfl, hdr⟩
          have hb1 := hdr.below
          have hB1 := below_step hB hb1
          have hR1 := Aside0.mk (Kd.R_below hR.out hb1)
          clear hB hR hb1 hdr
          go_wp2_with fail
          go_loopg [7] (src.size - j) (fun n v7 wr => ∃ e : Nat, n = src.size - e ∧ v7 = .int .i64 e ∧ j ≤ e ∧ e ≤ src.size ∧ Aside0 (e + lfAt (src.data.toList.drop e) = j + lfAt (src.data.toList.drop j)) ∧ wr = w1)
          case atStart => exact ⟨j, rfl, rfl, Nat.le_refl _, by omega, ⟨rfl⟩, rfl⟩
          case round =>
            obtain ⟨e, rfl, rfl, hje, hes, hqe, rfl⟩ := hrel
            by_cases hle2 : e < src.size
            · have e0 : (0 : Int) ≤ (e : Int) := by omega
              have e1 : (e : Int) < (src.size : Int) := by omega
              have pe : IntKind.i64.wrap ((e : Int) + 1) = ((e + 1 : Nat) : Int) := by rw [w64x (by omega) (by omega)]; omega
              have hde := dropC src e hle2
              by_cases h10 : src[e] = 10
              · have e10 : ((src[e].toNat : Int) != 10) = false := by rw [h10]; rfl
                have hee : Aside0 (e = j + lfAt (src.data.toList.drop j)) := ⟨by
                  have := hqe.out
                  rw [hde, h10, show lfAt (10 :: src.data.toList.drop (e + 1)) = 0 from if_pos rfl] at this
                  omega⟩
                have hgt : e ≥ j + 1 := by have := hee.out; omega
                clear h10 hde
                go_wp2_with fail
                go_roundg (src.size + 1 - e)
                case measure => omega
                case rel => exact ⟨e, ln, ts, rfl, rfl, rfl, by omega, hl, hl0, by omega, ⟨by rw [hee.out]; exact hq2.out⟩, hR1, hB1⟩
              · have e10 : ((src[e].toNat : Int) != 10) = true := bne_iff_ne.2 (u8n h10 (by decide))
                have hqe2 : Aside0 (e + 1 + lfAt (src.data.toList.drop (e + 1)) = j + lfAt (src.data.toList.drop j)) := ⟨by
                  have := hqe.out
                  rw [hde, lfAt_cons, if_neg h10] at this
                  omega⟩
                clear h10 hde
                go_wp2_with fail
                go_roundg (src.size - (e + 1))
                case measure => omega
                case rel => exact ⟨e + 1, rfl, rfl, by omega, by omega, hqe2, rfl⟩
            · have e1 : ¬ (e : Int) < (src.size : Int) := by omega
              have hee : Aside0 (e = j + lfAt (src.data.toList.drop j)) := ⟨by
                have := hqe.out
                rw [List.drop_of_length_le (i := e) (by rw [sz_toList]; omega)] at this
                exact this⟩
              have hgt : e ≥ j + 1 := by have := hee.out; omega
              go_wp2_with fail
              go_roundg (src.size + 1 - e)
              case measure => omega
              case rel => exact ⟨e, ln, ts, rfl, rfl, rfl, by omega, hl, hl0, by omega, ⟨by rw [hee.out]; exact hq2.out⟩, hR1, hB1⟩
        · have e35 : ((src[j].toNat : Int) == 35) = false := beq_eq_false_iff_ne.2 (u8n h35 (by decide))
          have hsk : Aside0 (skp (src.data.toList.drop j) = src[j] :: src.data.toList.drop (j + 1)) := ⟨by rw [hd]; exact skp_other _ _ hw h35⟩
          have hdd := Aside0.mk hd
          obtain ⟨xk, xt, xm, xl, xe, xr, hx, hT⟩ : ∃ xk xt xm xl xe xr, errataref17_token.f 100000 src (j : Int) = some (xk, xt, xm, xl, xe, xr) ∧ TokR src j (xk, xt, xm, xl, xe, xr) := by
            obtain ⟨⟨xk, xt, xm, xl, xe, xr⟩, h1, h2⟩ := refToken src hs j hlt 100000 (Nat.le_refl _)
            exact ⟨xk, xt, xm, xl, xe, xr, h1, h2⟩
          have HX := Aside0.mk hx
          have HT := Aside0.mk hT
          clear hw h35 hd hx hT
          go_wp2_with fail
          refine (errataref17_white.calls _ false _ hwf.out).mono ?_
          rintro e w1 ⟨rfl, hdr⟩
          have hb1 := hdr.below
          have hB1 := below_step hB hb1
          have hR1 := Aside0.mk (Kd.R_below hR.out hb1)
          clear hB hR hb1 hdr
          by_cases hfull : 3000 ≤ ts.length
          · have d3 : (3000 : Int) ≤ (ts.length : Int) := by omega
            have hres : Aside0 (lexA src.data.toList 1 [] = ([], 6, ln)) := ⟨by rw [← hq.out]; exact lexA_full _ _ _ hfull⟩
            go_wp2_with fail
            go_ret3
            exact lexDid_mk hres.out (Kd.R_nil _ _ _ _ _) hB1
          · have d3 : ¬ (3000 : Int) ≤ (ts.length : Int) := by omega
            go_wp2_with fail
            refine (errataref17_token.calls 100000 src (j : Int) xk xt xm xl xe xr _ HX.out).mono ?_
            rintro e w2 ⟨rfl, hb2⟩
            have hB2 := below_step hB1 hb2
            have hR2 := Aside0.mk (Kd.R_below hR1.out hb2)
            clear hB1 hR1 hb2
            rcases htk : tokF (src.data.toList.drop j) with b | ⟨kd, t, m, n⟩
            · have hb11 := tokF_err htk
              have hres : Aside0 (lexA src.data.toList 1 [] = ([], b, ln)) := ⟨by
                rw [← hq.out]
                exact lexA_err _ _ _ hfull _ _ hsk.out b (by rw [← hdd.out]; exact htk)⟩
              have hT2 := HT.out
              unfold TokR at hT2
              rw [htk] at hT2
              obtain ⟨E, hT2⟩ := hT2
              injection hT2 with q1 hT2
              injection hT2 with q2 hT2
              injection hT2 with q3 hT2
              injection hT2 with q4 hT2
              injection hT2 with q5 q6
              subst q1 q2 q3 q4 q6
              have hbz : (xr != 0) = true := by rcases hb11 with rfl | rfl <;> rfl
              clear htk HT HX
              go_wp2_with fail
              go_ret3
              exact lexDid_mk hres.out (Kd.R_nil _ _ _ _ _) (hB2.alloc hB2.size _)
            · have hin := tokF_in htk
              have hpos := tokF_pos htk
              have hdl : (src.data.toList.drop j).length = src.size - j := by rw [List.length_drop, sz_toList]
              rw [hdl] at hin
              obtain ⟨hin1, hin2, hin3⟩ := hin
              have hres : Aside0 (lexA (src.data.toList.drop (j + n)) (if kd = 4 then ln + 1 else ln) (ts ++ [(⟨kd, bs t, m, ln⟩ : S43)]) = lexA src.data.toList 1 []) := ⟨by
                rw [← hq.out, lexA_tok _ _ _ hfull src[j] (src.data.toList.drop (j + 1)) hsk.out kd t m n (by rw [← hdd.out]; exact htk), ← hdd.out, List.drop_drop]⟩
              have hT2 := HT.out
              unfold TokR at hT2
              rw [htk] at hT2
              injection hT2 with q1 hT2
              injection hT2 with q2 hT2
              injection hT2 with q3 hT2
              injection hT2 with q4 hT2
              injection hT2 with q5 q6
              subst q1 q2 q3 q4 q5 q6
              clear htk HT HX hdl
              have hbW : (w2.alloc (.cells #[.int .i64 xk, .string (bs t), .int .i64 xm, .int .i64 ln] 43)).heap[w2.heap.size]? = some (.cells #[.int .i64 xk, .string (bs t), .int .i64 xm, .int .i64 ln] 43 (0, 0)) := by
                show (w2.heap.push (.cells #[.int .i64 xk, .string (bs t), .int .i64 xm, .int .i64 ln] 43 (0, 0)))[w2.heap.size]? = _
                exact Array.getElem?_push_size
              have HR5 : Kd.R k43 43 (w2.alloc (.cells #[.int .i64 xk, .string (bs t), .int .i64 xm, .int .i64 ln] 43)) w.heap.size (fun k_ => k_ ≠ w2.heap.size) (.slice A ts.length c) ts :=
                Kd.R_alloc (Kd.R_mono (Kd.R_bound hR2.out) (fun k_ hk_ => by have := hk_.2.2.1; omega)) _
              have HB5 : Below w.heap.size w (w2.alloc (.cells #[.int .i64 xk, .string (bs t), .int .i64 xm, .int .i64 ln] 43)) := hB2.alloc hB2.size _
              have hfr : ∀ k_, (w2.alloc (.cells #[.int .i64 xk, .string (bs t), .int .i64 xm, .int .i64 ln] 43)).heap.size ≤ k_ → k_ ≠ w2.heap.size := fun k_ hk_ => by rw [World.size_alloc] at hk_; omega
              have hBs := HB5.size
              have HRA := Aside0.mk HR5
              have HBW := Aside0.mk hbW
              clear hbW
              go_wp2_with (at_builtin; refine Kd.R_append k43 (w0 := w) w.heap.size rfl (.tmp 69) (.tmp 71) 38 43 (.agg #[(.int .i64 0), (.string ⟨#[]⟩), (.int .i64 0), (.int .i64 0)]) 40 rfl Tryd.underlying38 info43 rfl (by decide) (by decide) (.slice A ts.length c) ts (⟨xk, (bs t), xm, ln⟩ : S43) [.int .i64 xk, .string (bs t), .int .i64 xm, .int .i64 ln] (fun k_ => k_ ≠ w2.heap.size) (fun _ => False) rfl (by first | (go_simp; done) | (go_simp; rfl)) (k43_mkM _ _ _ (⟨xk, (bs t), xm, ln⟩ : S43)) (fun _ hk => hk.elim) hfr HR5 HB5 hBs (by omega) ?_)
              intro v3 w3 r3 b3 g3 s3
              obtain ⟨A3, c3, rfl⟩ := Kd.R_slice r3
              have hbx3 := blk_grown (g := w2.heap.size) HBW.out g3 (fun e => HRA.out.1 _ e.symm rfl)
              have k3 : w3.cell? ⟨w2.heap.size, 0, none⟩ = some (.int .i64 xk) := blk_cell hbx3 0
              have R3 := Aside0.mk (Kd.R_mono r3 (fun _ _ => trivial : ∀ k_, k_ ≠ w2.heap.size → (fun _ => True) k_))
              clear r3 g3 s3 HR5 HRA HBW hbx3 hfr
              have hk5 : (xk == 5) = false := beq_eq_false_iff_ne.2 (by omega)
              have ql : IntKind.i64.wrap (ln + 1) = ln + 1 := w64x (by omega) (by omega)
              by_cases h4 : xk = 4
              · have e4 : (xk == 4) = true := beq_iff_eq.2 h4
                have hres2 : Aside0 (lexA (src.data.toList.drop (j + n)) (ln + 1) (ts ++ [(⟨xk, bs t, xm, ln⟩ : S43)]) = lexA src.data.toList 1 []) := ⟨by rw [← hres.out, if_pos h4]⟩
                clear h4 hres
                go_wp2_with fail
                go_roundg (src.size + 1 - (j + n))
                case measure => omega
                case rel => exact ⟨j + n, ln + 1, _, rfl, rfl, rfl, by omega, by rw [List.length_append, List.length_singleton]; omega, by omega, by omega, hres2, by have := R3.out; exact ⟨by simpa only [List.length_append, List.length_singleton] using this⟩, b3⟩
              · have e4 : (xk == 4) = false := beq_eq_false_iff_ne.2 h4
                have hres2 : Aside0 (lexA (src.data.toList.drop (j + n)) ln (ts ++ [(⟨xk, bs t, xm, ln⟩ : S43)]) = lexA src.data.toList 1 []) := ⟨by rw [← hres.out, if_neg h4]⟩
                clear h4 hres
                go_wp2_with fail
                go_roundg (src.size + 1 - (j + n))
                case measure => omega
                case rel => exact ⟨j + n, ln, _, rfl, rfl, rfl, by omega, by rw [List.length_append, List.length_singleton]; omega, by omega, by omega, hres2, by have := R3.out; exact ⟨by simpa only [List.length_append, List.length_singleton] using this⟩, b3⟩
    · have hje : j = src.size := by omega
      subst hje
      have j1 : ¬ (src.size : Int) < (src.size : Int) := by omega
      have hskn : skp (src.data.toList.drop src.size) = [] := by rw [List.drop_of_length_le (by rw [sz_toList]; exact Nat.le_refl _)]; rfl
      have HX := Aside0.mk (refToken_end src 100000)
      have hR2' := hR
      by_cases hfull : 3000 ≤ ts.length
      · have d3 : (3000 : Int) ≤ (ts.length : Int) := by omega
        have hres : Aside0 (lexA src.data.toList 1 [] = ([], 6, ln)) := ⟨by rw [← hq.out]; exact lexA_full _ _ _ hfull⟩
        go_wp2_with fail
        go_ret3
        exact lexDid_mk hres.out (Kd.R_nil _ _ _ _ _) hB
      · have d3 : ¬ (3000 : Int) ≤ (ts.length : Int) := by omega
        have hres : Aside0 (lexA src.data.toList 1 [] = (ts ++ [(⟨5, bs [], 0, ln⟩ : S43)], 0, 0)) := ⟨by rw [← hq.out]; exact lexA_end _ _ _ hfull hskn⟩
        clear hskn
        go_wp2_with fail
        refine (errataref17_token.calls 100000 src _ 5 ⟨#[]⟩ 0 0 _ 0 _ HX.out).mono ?_
        rintro e w2 ⟨rfl, hb2⟩
        have hB2 := below_step hB hb2
        have hR2 := Aside0.mk (Kd.R_below hR.out hb2)
        clear hB hR hb2 hR2'
        have hbW : (w2.alloc (.cells #[.int .i64 5, .string ⟨#[]⟩, .int .i64 0, .int .i64 ln] 43)).heap[w2.heap.size]? = some (.cells #[.int .i64 5, .string ⟨#[]⟩, .int .i64 0, .int .i64 ln] 43 (0, 0)) := by
          show (w2.heap.push (.cells #[.int .i64 5, .string ⟨#[]⟩, .int .i64 0, .int .i64 ln] 43 (0, 0)))[w2.heap.size]? = _
          exact Array.getElem?_push_size
        have HR5 : Kd.R k43 43 (w2.alloc (.cells #[.int .i64 5, .string ⟨#[]⟩, .int .i64 0, .int .i64 ln] 43)) w.heap.size (fun k_ => k_ ≠ w2.heap.size) (.slice A ts.length c) ts :=
          Kd.R_alloc (Kd.R_mono (Kd.R_bound hR2.out) (fun k_ hk_ => by have := hk_.2.2.1; omega)) _
        have HB5 : Below w.heap.size w (w2.alloc (.cells #[.int .i64 5, .string ⟨#[]⟩, .int .i64 0, .int .i64 ln] 43)) := hB2.alloc hB2.size _
        have hfr : ∀ k_, (w2.alloc (.cells #[.int .i64 5, .string ⟨#[]⟩, .int .i64 0, .int .i64 ln] 43)).heap.size ≤ k_ → k_ ≠ w2.heap.size := fun k_ hk_ => by rw [World.size_alloc] at hk_; omega
        have hBs := HB5.size
        have HRA := Aside0.mk HR5
        have HBW := Aside0.mk hbW
        clear hbW
        go_wp2_with (at_builtin; refine Kd.R_append k43 (w0 := w) w.heap.size rfl (.tmp 69) (.tmp 71) 38 43 (.agg #[(.int .i64 0), (.string ⟨#[]⟩), (.int .i64 0), (.int .i64 0)]) 40 rfl Tryd.underlying38 info43 rfl (by decide) (by decide) (.slice A ts.length c) ts (⟨5, ⟨#[]⟩, 0, ln⟩ : S43) [.int .i64 5, .string ⟨#[]⟩, .int .i64 0, .int .i64 ln] (fun k_ => k_ ≠ w2.heap.size) (fun _ => False) rfl (by first | (go_simp; done) | (go_simp; rfl)) (k43_mkM _ _ _ (⟨5, ⟨#[]⟩, 0, ln⟩ : S43)) (fun _ hk => hk.elim) hfr HR5 HB5 hBs (by omega) ?_)
        intro v3 w3 r3 b3 g3 s3
        obtain ⟨A3, c3, rfl⟩ := Kd.R_slice r3
        have hbx3 := blk_grown (g := w2.heap.size) HBW.out g3 (fun e => HRA.out.1 _ e.symm rfl)
        have k3 : w3.cell? ⟨w2.heap.size, 0, none⟩ = some (.int .i64 5) := blk_cell hbx3 0
        have R3 := Aside0.mk (Kd.R_mono r3 (fun _ _ => trivial : ∀ k_, k_ ≠ w2.heap.size → (fun _ => True) k_))
        clear r3 g3 s3 HR5 HRA HBW hbx3 hfr
        go_wp2_with fail
        go_ret3
        exact lexDid_mk hres.out R3.out b3

def errataref17_Lex.f (a0 : ByteArray) : Option (List S43 × Int × Int) := if a0.size ≤ 1000000 then some (if a0.size ≤ 8000 then lexA a0.data.toList 1 [] else ([], 6, 0)) else none
set_option maxRecDepth 100000 in
theorem rlex_long (s : ByteArray) (hs : ¬ s.size ≤ 8000) (w : World) :
    Calls Tryd.prog 30 #[.string s] w fun e w' => e = .returned (.tuple #[.slice none 0 0, .int .i64 6, .int .i64 0]) ∧ w' = w := by
  have d8 : (8000 : Int) < (s.size : Int) := by omega
  go_enter Tryd.func30, Tryd.ntmps30
  go_wp2_with fail
  go_ret3
  exact ⟨rfl, rfl⟩
theorem errataref17_Lex.calls (a0 : ByteArray) (r1 : List S43) (r2 r3 : Int) (w : World) (h : errataref17_Lex.f a0 = some (r1, r2, r3)) :
    Calls Tryd.prog 30 #[.string a0] w fun e w' => ∃ v0_ : Value, e = .returned (.tuple #[v0_, .int .i64 r2, .int .i64 r3]) ∧ Kd.R k43 43 w' w.heap.size (fun _ => True) v0_ r1 ∧ Below w.heap.size w w' := by
  unfold errataref17_Lex.f at h
  split at h
  · have h := Option.some.inj h
    split at h
    · rename_i hs
      refine (rlex_walk a0 w hs).mono ?_
      rintro e w' ⟨v, he, hr, hb⟩
      rw [h] at he hr
      exact ⟨v, he, hr, hb⟩
    · rename_i hs
      injection h with h1 h
      injection h with h2 h3
      subst h1 h2 h3
      refine (rlex_long a0 hs w).mono ?_
      rintro e w' ⟨rfl, rfl⟩
      exact ⟨_, rfl, Kd.R_nil _ _ _ _ _, Below.refl _ _⟩
  · cases h
end Go.Proofs.YtfefbnfmngdicaaDoor.PX
