/- Joined texts: L1, L4, L5, L9, V1, V2, V4, V5. -/
import Derived.Test.YtfefbnfmngdicaaDoorPlain
import Derived.Lib.ItoaNum
import Derived.Lib.ItoaMem
import Derived.Lib.ParseIntBTie
import Derived.Test.YtfefbnfmngdicaaDoorPX16
import Derived.Test.YtfefbnfmngdicaaDoorL2
import Derived.Test.YtfefbnfmngdicaaDoorE3
import Derived.Test.YtfefbnfmngdicaaDoorW2
import Derived.Test.YtfefbnfmngdicaaDoorL3
import Derived.Lib.SplitLaws
import Derived.Lib.TrimU
import Derived.Lib.TrimUEq
import Derived.Test.YtfefbnfmngdicaaDoorPT2
import Derived.Test.YtfefbnfmngdicaaDoorPT4
import Derived.Test.YtfefbnfmngdicaaDoorE2
import Derived.Lib.ItoaLen
import Derived.Test.YtfefbnfmngdicaaDoorPT5
import Derived.Test.YtfefbnfmngdicaaDoorPT7
import Derived.Test.YtfefbnfmngdicaaDoorE11
import Derived.Test.YtfefbnfmngdicaaDoorPT6
import Derived.Test.YtfefbnfmngdicaaDoorPT9
/- Plain laws of numbers and quoted strings: what Int reads of what Decimal writes, and the like. No program in sight. -/
namespace Go.Proofs.YtfefbnfmngdicaaDoor.PX
set_option linter.unusedVariables false
set_option linter.unusedSimpArgs false

theorem dec_small {u : Nat} (h : u < 10) : Lib.decDigits u = [UInt8.ofNat (48 + u)] := by rw [Lib.decDigits, dif_pos h]
theorem dec_big {u : Nat} (h : ¬ u < 10) : Lib.decDigits u = Lib.decDigits (u / 10) ++ [UInt8.ofNat (48 + u % 10)] := by rw [Lib.decDigits, dif_neg h]

theorem parse_digit (acc d : Nat) (rest : List UInt8) (hd : d < 10) (h : acc * 10 + d < 18446744073709551616) :
    Lib.parseUint10 acc (UInt8.ofNat (48 + d) :: rest) = Lib.parseUint10 (acc * 10 + d) rest := by
  have e : (UInt8.ofNat (48 + d)).toNat = 48 + d := by rw [UInt8.toNat_ofNat']; omega
  rw [Lib.parseUint10, e, if_pos (by omega), if_neg (by omega), if_neg (by omega), Nat.add_sub_cancel_left]

theorem parse_dec (u : Nat) : ∀ (acc : Nat) (rest : List UInt8), acc * 10 ^ (Lib.decDigits u).length + u < 18446744073709551616 →
    Lib.parseUint10 acc (Lib.decDigits u ++ rest) = Lib.parseUint10 (acc * 10 ^ (Lib.decDigits u).length + u) rest := by
  induction u using Nat.strongRecOn with
  | _ u ih =>
    intro acc rest h
    by_cases hu : u < 10
    · rw [dec_small hu] at h ⊢
      simp only [List.length_singleton, Nat.pow_one] at h ⊢
      exact parse_digit acc u rest hu h
    · rw [dec_big hu] at h ⊢
      simp only [List.length_append, List.length_singleton, Nat.pow_succ] at h ⊢
      have e : acc * (10 ^ (Lib.decDigits (u / 10)).length * 10) + u = (acc * 10 ^ (Lib.decDigits (u / 10)).length + u / 10) * 10 + u % 10 := by
        rw [← Nat.mul_assoc, Nat.add_mul]
        omega
      rw [e] at h ⊢
      rw [List.append_assoc, ih (u / 10) (by omega) acc _ (by omega)]
      exact parse_digit _ _ rest (Nat.mod_lt _ (by decide)) h

theorem dec_head (u : Nat) : ∃ c r, Lib.decDigits u = c :: r ∧ 48 ≤ c.toNat ∧ c.toNat ≤ 57 := by
  induction u using Nat.strongRecOn with
  | _ u ih =>
    by_cases hu : u < 10
    · rw [dec_small hu]
      have e : (UInt8.ofNat (48 + u)).toNat = 48 + u := by rw [UInt8.toNat_ofNat']; omega
      exact ⟨_, _, rfl, by omega, by omega⟩
    · obtain ⟨c, r, h, h1, h2⟩ := ih (u / 10) (by omega)
      rw [dec_big hu, h]
      exact ⟨c, _, rfl, h1, h2⟩

theorem mag_dec (u : Nat) (h : u < 18446744073709551616) : Lib.parseMag (Lib.decDigits u) = .ok u := by
  obtain ⟨c, r, e, _⟩ := dec_head u
  unfold Lib.parseMag
  rw [if_neg (by rw [e]; simp)]
  have := parse_dec u 0 [] (by omega)
  rw [List.append_nil] at this
  rw [this, Lib.parseUint10]
  congr 1
  omega

theorem parse_itoa (n : Int) (h0 : -9223372036854775808 ≤ n) (h1 : n ≤ 9223372036854775807) : Lib.parseIntB 64 (Lib.itoa n) = .ok n := by
  rw [Lib.parseIntB_64]
  by_cases hn : n < 0
  · unfold Lib.itoa
    rw [if_pos hn, Lib.atoiAll_minus, mag_dec _ (by omega)]
    simp only [Lib.signed]
    rw [if_neg (by omega)]
    congr 1
    omega
  · unfold Lib.itoa
    rw [if_neg hn]
    obtain ⟨c, r, e, hc⟩ := dec_head n.toNat
    rw [e, Lib.atoiAll_plain c r (by omega) (by omega), ← e, mag_dec _ (by omega)]
    simp only [Lib.signless]
    rw [if_neg (by omega)]
    congr 1
    omega

/-! ### Quoted strings -/
theorem hexD_lt (n : Nat) (h : n < 16) : ∀ m, m < 16 → hxB (hexD n) (hexD m) = UInt8.ofNat (16 * n + m) := by
  have e : ((List.range 16).all fun n => (List.range 16).all fun m => hxB (hexD n) (hexD m) == UInt8.ofNat (16 * n + m)) = true := by decide +kernel
  intro m hm
  have h1 := List.all_eq_true.1 e n (List.mem_range.2 h)
  have h2 := List.all_eq_true.1 h1 m (List.mem_range.2 hm)
  exact beq_iff_eq.1 h2

theorem unq_quoB (c : UInt8) (r : List UInt8) : unq (quoB c ++ r) = c :: unq r := by
  unfold quoB
  split
  · rename_i h
    show unq (92 :: c :: r) = _
    refine unq_d c r ?_ ?_
    · rintro rfl; simp at h
    · rintro rfl; simp at h
  · split
    · rename_i h
      show unq (92 :: 110 :: r) = _
      rw [unq_n, u8_eq h (by decide)]
      rfl
    · split
      · rename_i h0 _ _
        refine unq_plain c r ?_
        rintro rfl; simp at h0
      · show unq (92 :: 120 :: hexD (c.toNat / 16) :: hexD (c.toNat % 16) :: r) = _
        have hc := c.toNat_lt
        rw [unq_x, hexD_lt _ (by omega) _ (by omega), ← u8_eq (c := c) (n := 16 * (c.toNat / 16) + c.toNat % 16) (by omega) (by omega)]
theorem unq_flat (l : List UInt8) : unq (l.flatMap quoB) = l := by
  induction l with
  | nil => rfl
  | cons c l ih => rw [List.flatMap_cons, unq_quoB, ih]
theorem mid_quo (l : List UInt8) : (((quo l).drop 1).take ((quo l).length - 2)) = l.flatMap quoB := by
  unfold quo
  simp
end Go.Proofs.YtfefbnfmngdicaaDoor.PX

/- The documented examples, as the laws of layer 2 check them: they come to true. -/
namespace Go.Proofs.YtfefbnfmngdicaaDoor.PX
set_option linter.unusedVariables false
set_option linter.unusedSimpArgs false
open Go.RowKit Go.Proofs.YtfefbnfmngdicaaDoorW.PrintWords Go.Proofs.YtfefbnfmngdicaaDoorW.PrintLast

theorem int_bad0 : text_Int.f (⟨#[45, 48]⟩ : ByteArray) = some (0, false) := by
  have h : Lib.parseIntB 64 [45, 48] = .ok 0 := by decide +kernel
  have e : Lib.itoa 0 = [48] := by unfold Lib.itoa; rw [if_neg (by decide)]; exact dec_small (by decide)
  unfold text_Int.f intOf64
  rw [if_pos (by decide)]
  simp only [h]
  rw [if_neg (by rw [e]; decide)]
theorem int_bad7 : text_Int.f (⟨#[48, 48, 55]⟩ : ByteArray) = some (0, false) := by
  have h : Lib.parseIntB 64 [48, 48, 55] = .ok 7 := by decide +kernel
  have e : Lib.itoa 7 = [55] := by unfold Lib.itoa; rw [if_neg (by decide)]; exact dec_small (by decide)
  unfold text_Int.f intOf64
  rw [if_pos (by decide)]
  simp only [h]
  rw [if_neg (by rw [e]; decide)]
theorem int_least : text_Int.f (⟨#[45, 57, 50, 50, 51, 51, 55, 50, 48, 51, 54, 56, 53, 52, 55, 55, 53, 56, 48, 56]⟩ : ByteArray) = some (-9223372036854775808, true) := by
  have h : Lib.parseIntB 64 [45, 57, 50, 50, 51, 51, 55, 50, 48, 51, 54, 56, 53, 52, 55, 55, 53, 56, 48, 56] = .ok (-9223372036854775808) := by decide +kernel
  have e : Lib.itoa (-9223372036854775808) = [45, 57, 50, 50, 51, 51, 55, 50, 48, 51, 54, 56, 53, 52, 55, 55, 53, 56, 48, 56] := by
    unfold Lib.itoa
    rw [if_pos (by decide)]
    simp [dec_big, dec_small]
  unfold text_Int.f intOf64
  rw [if_pos (by decide)]
  simp only [h]
  rw [if_pos e]
theorem lines_ex : text_Lines.f (⟨#[97, 10, 10, 98]⟩ : ByteArray) = some [⟨#[97]⟩, ⟨#[]⟩, ⟨#[98]⟩] := by decide +kernel
theorem fields_ex : text_Fields.f (⟨#[32, 97, 32, 32, 98, 10]⟩ : ByteArray) = some [⟨#[97]⟩, ⟨#[98]⟩] := by decide +kernel
theorem quote_ex : text_Quote.f (⟨#[97, 34, 10, 200]⟩ : ByteArray) = some ⟨#[34, 97, 92, 34, 92, 110, 92, 120, 99, 56, 34]⟩ := by decide +kernel
theorem pat_ex1 : text_Pattern.f (⟨#[97, 42, 91, 33, 120, 45, 122, 93, 63]⟩ : ByteArray) (⟨#[97, 98, 99, 100]⟩ : ByteArray) = some true := by decide +kernel
theorem pat_ex2 : text_Pattern.f (⟨#[91, 93, 93]⟩ : ByteArray) (⟨#[93]⟩ : ByteArray) = some true := by decide +kernel
theorem pat_ex3 : text_Pattern.f (⟨#[91, 97]⟩ : ByteArray) (⟨#[91, 97]⟩ : ByteArray) = some true := by decide +kernel
theorem pat_ex4 : text_Pattern.f (⟨#[92, 42]⟩ : ByteArray) (⟨#[42]⟩ : ByteArray) = some true := by decide +kernel
theorem pat_ex5 : text_Pattern.f (⟨#[92, 42]⟩ : ByteArray) (⟨#[97, 98]⟩ : ByteArray) = some false := by decide +kernel

theorem small_true (k : Nat) (hk : 2 ≤ k) : erratalaw02_small.f k = some true := by
  obtain ⟨k, rfl⟩ : ∃ m, k = m + 2 := ⟨k - 2, by omega⟩
  unfold erratalaw02_small.f
  rw [int_bad0, int_bad7, int_least, lines_ex, fields_ex]
  simp only [Option.bind_some]
  rw [if_pos (by decide)]
  simp only [erratalaw02_small.j0]
  rw [if_neg (by decide), if_neg (by decide), if_neg (by decide), if_pos trivial, if_pos trivial, quote_ex]
  simp only [Option.bind_some]
  rw [if_pos (by decide +kernel), if_pos (by decide +kernel), if_pos (by decide +kernel), if_pos (by decide +kernel), if_pos (by decide +kernel), if_pos (by decide +kernel)]
  have e : ((rdOf ByteArray.empty [(⟨#[97]⟩ : ByteArray), ⟨#[98]⟩] 1).toList == ([98] : List UInt8)) = true := by decide +kernel
  rw [e]
  simp only [erratalaw02_small.j1]
  rw [if_pos trivial, pat_ex1, pat_ex2, pat_ex3, pat_ex4, pat_ex5]
  simp
end Go.Proofs.YtfefbnfmngdicaaDoor.PX

/- Plain laws of patterns: magic, Plain, Escape. No program in sight. -/
namespace Go.Proofs.YtfefbnfmngdicaaDoor.PX
set_option linter.unusedVariables false
set_option linter.unusedSimpArgs false

/-- Is the first part a star, a question mark or a class? -/
def mg1 (l : List UInt8) : Bool :=
  match l with
  | [] => false
  | c :: r => c == 42 || c == 63 || (c == 91 && (cls r).isSome)
def mgF : Nat → List UInt8 → Bool
  | 0, _ => false
  | k + 1, l => if l = [] then false else mg1 l || mgF k (l.drop (part1 l).2)
theorem mgF_eq : ∀ (k k' : Nat) (l : List UInt8), l.length ≤ k → l.length ≤ k' → mgF k l = mgF k' l
  | 0, 0, _, _, _ => rfl
  | 0, k' + 1, l, h, _ => by
    have : l = [] := List.eq_nil_of_length_eq_zero (by omega)
    simp [mgF, this]
  | k + 1, 0, l, _, h => by
    have : l = [] := List.eq_nil_of_length_eq_zero (by omega)
    simp [mgF, this]
  | k + 1, k' + 1, l, h, h' => by
    unfold mgF
    split
    · rfl
    · have := part1_pos l
      rw [mgF_eq k k' _ (by rw [List.length_drop]; omega) (by rw [List.length_drop]; omega)]
/-- Has a pattern magic? -/
def mg (l : List UInt8) : Bool := mgF l.length l
theorem mg_nil : mg [] = false := rfl
theorem mg_cons (l : List UInt8) (h : l ≠ []) : mg l = (mg1 l || mg (l.drop (part1 l).2)) := by
  have h1 : 1 ≤ l.length := by cases l with | nil => exact absurd rfl h | cons c r => simp
  have h2 := part1_pos l
  unfold mg
  obtain ⟨n, hn⟩ : ∃ n, l.length = n + 1 := ⟨l.length - 1, by omega⟩
  rw [hn, mgF, if_neg h, mgF_eq n _ _ (by rw [List.length_drop]; omega) (Nat.le_refl _)]

/-- A test of one given byte. -/
def lit (b : UInt8) : Pt := some fun x => x == b
theorem esc_cons (c : UInt8) (r : List UInt8) : esc (c :: r) = escB c ++ esc r := by simp [esc]
theorem escB_two (c : UInt8) (h : c = 42 ∨ c = 63 ∨ c = 91 ∨ c = 92) : escB c = [92, c] := if_pos h
theorem escB_one (c : UInt8) (h : ¬ (c = 42 ∨ c = 63 ∨ c = 91 ∨ c = 92)) : escB c = [c] := if_neg h
end Go.Proofs.YtfefbnfmngdicaaDoor.PX

/- Lines and fields, plainly: what strings.Split at an LF and strings.FieldsFunc at the white bytes give, as functions of the bytes, and how they fit together. No program in sight. -/
namespace Go.Proofs.YtfefbnfmngdicaaDoor.PX
set_option linter.unusedVariables false
set_option linter.unusedSimpArgs false

/-! ### Lines -/
/-- What stands between the LFs. -/
def spl : List UInt8 → List (List UInt8)
  | [] => [[]]
  | c :: r => if c = 10 then [] :: spl r else match spl r with
    | [] => [[c]]
    | h :: t => (c :: h) :: t
theorem spl_ne (l : List UInt8) : spl l ≠ [] := by
  cases l with
  | nil => simp [spl]
  | cons c r =>
    unfold spl
    split
    · simp
    · split <;> simp
theorem spl_lf (r : List UInt8) : spl (10 :: r) = [] :: spl r := if_pos rfl
theorem spl_cons (c : UInt8) (r h : List UInt8) (t : List (List UInt8)) (hc : c ≠ 10) (hr : spl r = h :: t) : spl (c :: r) = (c :: h) :: t := by
  rw [spl, if_neg hc, hr]
theorem index_lf (r : List UInt8) : Lib.index (10 :: r) [10] = 0 := by
  rw [Lib.index, if_pos (by simp [List.isPrefixOf])]
theorem index_ne (c : UInt8) (r : List UInt8) (h : c ≠ 10) : Lib.index (c :: r) [10] = if Lib.index r [10] == -1 then -1 else Lib.index r [10] + 1 := by
  rw [Lib.index, if_neg]
  simp only [List.isPrefixOf, Bool.and_true, beq_iff_eq]
  exact fun e => h e.symm
theorem splitK_spl : ∀ (s : List UInt8), Lib.splitK [10] 0 (Lib.count s [10]) s = spl s
  | [] => rfl
  | c :: r => by
    have ih := splitK_spl r
    by_cases h : c = 10
    · subst h
      rw [Lib.count_cons_eq, Nat.add_comm, Lib.splitK, index_lf, spl_lf, ← ih]
      rfl
    · rw [Lib.count_cons_ne _ _ _ h]
      cases hk : Lib.count r [10] with
      | zero =>
        rw [hk] at ih
        exact (spl_cons c r r [] h ih.symm).symm
      | succ k =>
        rw [hk] at ih
        rw [Lib.splitK] at ih ⊢
        rw [index_ne c r h]
        by_cases hi : Lib.index r [10] = -1
        · rw [hi] at ih ⊢
          exact (spl_cons c r r [] h ih.symm).symm
        · have hi2 : ¬ (Lib.index r [10] == -1) = true := fun e => hi (beq_iff_eq.1 e)
          have hg := Lib.index_ge r [10]
          have hi3 : ¬ (Lib.index r [10] + 1 == -1) = true := fun e => by have := beq_iff_eq.1 e; omega
          rw [if_neg hi2] at ih ⊢
          rw [if_neg hi3]
          have e1 : (Lib.index r [10] + 1).toNat = (Lib.index r [10]).toNat + 1 := by omega
          rw [e1, spl_cons c r _ _ h ih.symm]
          rfl
/-- The bytes as a string. -/
def mk (l : List UInt8) : ByteArray := ⟨l.toArray⟩
theorem mk_list (l : List UInt8) : (mk l).data.toList = l := rfl
theorem mk_of (s : ByteArray) : mk s.data.toList = s := by cases s; rfl
theorem mk_len (l : List UInt8) : (mk l).size = l.length := by unfold mk; rw [ByteArray.size, List.size_toArray]
theorem splitB_spl (s : ByteArray) : Lib.splitB ⟨#[10]⟩ 0 (Lib.countB s ⟨#[10]⟩) s = (spl s.data.toList).map mk := by
  have h := Lib.splitB_data ⟨#[10]⟩ 0 (Lib.countB s ⟨#[10]⟩) s
  have e : Lib.countB s ⟨#[10]⟩ = Lib.count s.data.toList [10] := rfl
  rw [e] at h ⊢
  have e2 : Lib.splitK (⟨#[10]⟩ : ByteArray).data.toList 0 (Lib.count s.data.toList [10]) s.data.toList = spl s.data.toList := splitK_spl _
  rw [e2] at h
  rw [← h, List.map_map]
  refine (List.map_id _).symm.trans (List.map_congr_left fun x _ => ?_)
  exact (mk_of x).symm

/-- Without one LF at the end. -/
def trm (l : List UInt8) : List UInt8 := Lib.trimSuffix l [10]
theorem trm_snoc (l : List UInt8) : trm (l ++ [10]) = l := by
  unfold trm Lib.trimSuffix
  rw [if_pos]
  · simp
  · unfold Lib.hasSuffix
    rw [List.isSuffixOf_iff_suffix]
    exact ⟨l, rfl⟩
theorem trm_other (l : List UInt8) (h : l.getLast? ≠ some 10) : trm l = l := by
  unfold trm Lib.trimSuffix
  rw [if_neg]
  unfold Lib.hasSuffix
  rw [List.isSuffixOf_iff_suffix]
  rintro ⟨t, rfl⟩
  exact h (by simp)
theorem last_split (l : List UInt8) (h : l.getLast? = some 10) : ∃ t, l = t ++ [10] := by
  obtain ⟨t, ht⟩ := List.getLast?_eq_some_iff.1 h
  exact ⟨t, ht⟩
/-- The lines of a text. -/
def lns (l : List UInt8) : List (List UInt8) := if l = [] then [] else spl (trm l)
theorem lines_eq (s : ByteArray) (h : s.size ≤ 1000000) : text_Lines.f s = some ((lns s.data.toList).map mk) := by
  unfold text_Lines.f lns
  rw [if_pos h]
  by_cases hn : s.data.toList = []
  · rw [if_pos hn, if_pos hn]; rfl
  · rw [if_neg hn, if_neg hn]
    have := splitB_spl ⟨(Lib.trimSuffix s.data.toList [10]).toArray⟩
    exact congrArg some this

/-- Each with an LF behind it. -/
def ends (l : List (List UInt8)) : List UInt8 := l.flatMap fun x => x ++ [10]
theorem ends_cons (x : List UInt8) (l : List (List UInt8)) : ends (x :: l) = x ++ 10 :: ends l := by simp [ends]
theorem ends_spl : ∀ (t : List UInt8), ends (spl t) = t ++ [10]
  | [] => rfl
  | c :: r => by
    have ih := ends_spl r
    by_cases h : c = 10
    · subst h
      rw [spl_lf, ends_cons, ih]
      rfl
    · cases hs : spl r with
      | nil => exact absurd hs (spl_ne r)
      | cons a b =>
        rw [spl_cons c r a b h hs, ends_cons]
        rw [hs, ends_cons] at ih
        show c :: (a ++ 10 :: ends b) = c :: (r ++ [10])
        rw [ih]
theorem spl_app : ∀ (a b : List UInt8), (∀ c ∈ a, c ≠ 10) → spl (a ++ 10 :: b) = a :: spl b
  | [], b, _ => spl_lf b
  | c :: a, b, h => by
    rw [List.cons_append]
    exact spl_cons c _ a (spl b) (h c (by simp)) (spl_app a b fun x hx => h x (by simp [hx]))
theorem spl_one : ∀ (a : List UInt8), (∀ c ∈ a, c ≠ 10) → spl a = [a]
  | [], _ => rfl
  | c :: a, h => spl_cons c a a [] (h c (by simp)) (spl_one a fun x hx => h x (by simp [hx]))
/-- With an LF at the end. -/
def fin10 (l : List UInt8) : List UInt8 := if l = [] ∨ l.getLast? = some 10 then l else l ++ [10]
theorem ends_lns (l : List UInt8) : ends (lns l) = fin10 l := by
  unfold lns fin10
  by_cases h : l = []
  · rw [if_pos h, if_pos (.inl h), h]; rfl
  · rw [if_neg h, ends_spl]
    by_cases hl : l.getLast? = some 10
    · rw [if_pos (.inr hl)]
      obtain ⟨t, rfl⟩ := last_split l hl
      rw [trm_snoc]
    · rw [if_neg (by rintro (e | e); exact h e; exact hl e), trm_other l hl]

/-! ### Fields -/
def whB (b : UInt8) : Bool := b == 32 || b == 9 || b == 10
def flG : Option (List UInt8) → List UInt8 → List (List UInt8)
  | c, [] => c.toList
  | c, b :: r => if whB b then c.toList ++ flG none r else flG (some (c.getD [] ++ [b])) r
/-- The fields of a text. -/
def fld (l : List UInt8) : List (List UInt8) := flG none l
theorem flG_white (c : Option (List UInt8)) (b : UInt8) (r : List UInt8) (h : whB b = true) : flG c (b :: r) = c.toList ++ flG none r := if_pos h
theorem flG_other (c : Option (List UInt8)) (b : UInt8) (r : List UInt8) (h : whB b = false) : flG c (b :: r) = flG (some (c.getD [] ++ [b])) r := by rw [flG, if_neg (by rw [h]; decide)]
theorem flG_run : ∀ (x : List UInt8) (c : List UInt8) (r : List UInt8), (∀ b ∈ x, whB b = false) → flG (some c) (x ++ r) = flG (some (c ++ x)) r
  | [], c, r, _ => by simp
  | b :: x, c, r, h => by
    rw [List.cons_append, flG_other _ _ _ (h b (by simp)), Option.getD_some, flG_run x _ r fun y hy => h y (by simp [hy])]
    simp
theorem flG_run0 (x : List UInt8) (c : Option (List UInt8)) (r : List UInt8) (hx : x ≠ []) (h : ∀ b ∈ x, whB b = false) : flG c (x ++ r) = flG (some (c.getD [] ++ x)) r := by
  cases x with
  | nil => exact absurd rfl hx
  | cons b x =>
    rw [List.cons_append, flG_other _ _ _ (h b (by simp)), flG_run x _ r fun y hy => h y (by simp [hy])]
    simp
/-! What FieldsFunc at the white runes does. -/
theorem decN_low (n b0 b1 b2 b3 : Nat) (h : b0 < 128) : Lib.decodeN n b0 b1 b2 b3 = (b0, 1) := if_pos h
theorem decN_high (n b0 b1 b2 b3 : Nat) (h : 128 ≤ b0) (hn : 1 ≤ n) : 128 ≤ (Lib.decodeN n b0 b1 b2 b3).1 ∧ 1 ≤ (Lib.decodeN n b0 b1 b2 b3).2 ∧ (Lib.decodeN n b0 b1 b2 b3).2 ≤ n ∧
    (2 ≤ (Lib.decodeN n b0 b1 b2 b3).2 → 128 ≤ b1) ∧ (3 ≤ (Lib.decodeN n b0 b1 b2 b3).2 → 128 ≤ b2) ∧ (4 ≤ (Lib.decodeN n b0 b1 b2 b3).2 → 128 ≤ b3) ∧ (Lib.decodeN n b0 b1 b2 b3).2 ≤ 4 := by
  unfold Lib.decodeN
  repeat' split
  all_goals simp only
  all_goals omega
theorem wht_high (x : Nat) (h : 128 ≤ x) : wht x = false := by
  unfold wht
  simp only [Bool.or_eq_false_iff, beq_eq_false_iff_ne]
  omega
theorem wht_low (b : UInt8) : wht b.toNat = whB b := by
  unfold wht whB
  have e : ∀ n, n < 256 → (b.toNat == n) = (b == UInt8.ofNat n) := by
    intro n hn
    rw [Bool.eq_iff_iff, beq_iff_eq, beq_iff_eq]
    constructor
    · intro h
      exact UInt8.toNat_inj.1 (by rw [h]; simp; omega)
    · intro h
      rw [h]; simp; omega
  rw [e 32 (by decide), e 9 (by decide), e 10 (by decide)]
  rfl
theorem whB_high (b : UInt8) (h : 128 ≤ b.toNat) : whB b = false := by
  rw [← wht_low]
  exact wht_high _ h
/-- A span's piece. -/
def pc (l : List UInt8) (x : Nat × Nat) : List UInt8 := (l.drop x.1).take (x.2 - x.1)
theorem pc_more (l : List UInt8) (a pos w : Nat) (h : a ≤ pos) : (l.drop a).take (pos + w - a) = (l.drop a).take (pos - a) ++ (l.drop pos).take w := by
  rw [show pos + w - a = (pos - a) + w by omega, List.take_add, List.drop_drop, show a + (pos - a) = pos by omega]
theorem run_high (s : ByteArray) (pos w : Nat) (hw : w ≤ 4) (h0 : 128 ≤ (s.get! pos).toNat) (h1 : 2 ≤ w → 128 ≤ (s.get! (pos + 1)).toNat) (h2 : 3 ≤ w → 128 ≤ (s.get! (pos + 2)).toNat) (h3 : 4 ≤ w → 128 ≤ (s.get! (pos + 3)).toNat) :
    ∀ b ∈ (s.data.toList.drop pos).take w, whB b = false := by
  intro b hb
  obtain ⟨j, hj, e⟩ := List.mem_iff_getElem.1 hb
  rw [List.length_take] at hj
  rw [List.getElem_take, List.getElem_drop] at e
  have hl : pos + j < s.data.toList.length := by
    rw [List.length_drop] at hj
    omega
  have e2 : s.get! (pos + j) = b := by
    rw [← Lib.getD_get!' s (pos + j), List.getD_eq_getElem?_getD, List.getElem?_eq_getElem hl, Option.getD_some, e]
  apply whB_high
  rw [← e2]
  have hc : j = 0 ∨ j = 1 ∨ j = 2 ∨ j = 3 := by omega
  rcases hc with rfl | rfl | rfl | rfl
  · exact h0
  · exact h1 (by omega)
  · exact h2 (by omega)
  · exact h3 (by omega)
theorem spans_fld (s : ByteArray) : ∀ (f pos : Nat) (st : Option Nat) (acc : List (Nat × Nat)), s.size - pos ≤ f → pos ≤ s.size → (∀ a, st = some a → a ≤ pos) →
    (Lib.closeSpans s (Lib.spansFromP wht s f pos st acc)).map (pc s.data.toList) = acc.map (pc s.data.toList) ++ flG (st.map fun a => pc s.data.toList (a, pos)) (s.data.toList.drop pos) := by
  intro f
  induction f with
  | zero =>
    intro pos st acc hf hp hst
    have : pos = s.size := by omega
    subst this
    rw [Lib.spansFromP_end _ _ _ _ _ _ (by omega), List.drop_of_length_le (by rw [sz_toList]; exact Nat.le_refl _)]
    cases st with
    | none => simp [Lib.closeSpans, flG]
    | some a => simp [Lib.closeSpans, flG]
  | succ f ih =>
    intro pos st acc hf hp hst
    by_cases h : pos < s.size
    · have hlt : pos < s.data.toList.length := by rw [sz_toList]; exact h
      have hb : s.get! pos = s.data.toList[pos] := by
        rw [← Lib.getD_get!' s pos, List.getD_eq_getElem?_getD, List.getElem?_eq_getElem hlt, Option.getD_some]
      have hd : s.data.toList.drop pos = s.data.toList[pos] :: s.data.toList.drop (pos + 1) := List.drop_eq_getElem_cons hlt
      have other : ∀ w, 1 ≤ w → pos + w ≤ s.size → (∀ b ∈ (s.data.toList.drop pos).take w, whB b = false) →
          (Lib.closeSpans s (match st with
            | some a => Lib.spansFromP wht s f (pos + w) (some a) acc
            | none => Lib.spansFromP wht s f (pos + w) (some pos) acc)).map (pc s.data.toList) = acc.map (pc s.data.toList) ++ flG (st.map fun a => pc s.data.toList (a, pos)) (s.data.toList.drop pos) := by
        intro w hw1 hw2 hx
        have hr : s.data.toList.drop pos = (s.data.toList.drop pos).take w ++ s.data.toList.drop (pos + w) := by
          rw [← List.drop_drop, List.take_append_drop]
        have hne : (s.data.toList.drop pos).take w ≠ [] := by
          intro e
          have := congrArg List.length e
          rw [List.length_take, List.length_drop, sz_toList] at this
          simp at this
          omega
        cases st with
        | some a =>
          simp only
          rw [ih (pos + w) (some a) acc (by omega) hw2 (fun b hb => by have := hst b hb; omega)]
          conv => rhs; rw [hr]
          rw [flG_run0 _ _ _ hne hx]
          have e := pc_more s.data.toList a pos w (hst a rfl)
          simp only [Option.map_some, Option.getD_some, pc]
          rw [e]
        | none =>
          simp only
          rw [ih (pos + w) (some pos) acc (by omega) hw2 (fun b hb => by cases hb; omega)]
          conv => rhs; rw [hr]
          rw [flG_run0 _ _ _ hne hx]
          simp only [Option.map_some, Option.map_none, Option.getD_none, pc, List.nil_append]
          rw [show pos + w - pos = w by omega]
      unfold Lib.spansFromP
      rw [if_pos h, Lib.decode_at]
      by_cases hlow : (s.get! pos).toNat < 128
      · rw [decN_low _ _ _ _ _ hlow]
        simp only
        rw [wht_low, hb]
        cases hw : whB s.data.toList[pos] with
        | true =>
          rw [if_pos rfl, hd, flG_white _ _ _ hw]
          cases st with
          | some a =>
            simp only
            rw [ih (pos + 1) none _ (by omega) (by omega) (fun b hb => by cases hb)]
            simp
          | none =>
            simp only
            rw [ih (pos + 1) none _ (by omega) (by omega) (fun b hb => by cases hb)]
            simp
        | false =>
          rw [if_neg (by decide)]
          refine Eq.trans (by cases st <;> rfl) (other 1 (Nat.le_refl _) (by omega) ?_)
          rw [hd]
          intro b hb2
          have : b = s.data.toList[pos] := by simpa using hb2
          rw [this]
          exact hw
      · obtain ⟨g1, g2, g3, g4, g5, g6, g7⟩ := decN_high (s.size - pos) (s.get! pos).toNat (s.get! (pos + 1)).toNat (s.get! (pos + 2)).toNat (s.get! (pos + 3)).toNat (by omega) (by omega)
        rw [wht_high _ g1, if_neg (by decide)]
        exact Eq.trans (by cases st <;> rfl) (other _ g2 (by omega) (run_high s pos _ g7 (by omega) g4 g5 g6))
    · have : pos = s.size := by omega
      subst this
      rw [Lib.spansFromP_end _ _ _ _ _ _ (by omega), List.drop_of_length_le (by rw [sz_toList]; exact Nat.le_refl _)]
      cases st with
      | none => simp [Lib.closeSpans, flG]
      | some a => simp [Lib.closeSpans, flG]
theorem fields_eq (s : ByteArray) (h : s.size ≤ 1000000) : text_Fields.f s = some ((fld s.data.toList).map mk) := by
  unfold text_Fields.f
  rw [if_pos h]
  congr 1
  unfold Lib.goFieldsP Lib.spansOfP
  have hs := spans_fld s s.size 0 none [] (by omega) (Nat.zero_le _) (fun a ha => by cases ha)
  have e : fld s.data.toList = (Lib.closeSpans s (Lib.spansFromP wht s s.size 0 none [])).map (pc s.data.toList) := by rw [hs]; rfl
  rw [e, List.map_map]
  refine List.map_congr_left fun x _ => ?_
  exact ext_mk s x.1 x.2
end Go.Proofs.YtfefbnfmngdicaaDoor.PX

/- What the reference's Quote, Decimal, Int and Unquote compute, plainly. -/
namespace Go.Proofs.YtfefbnfmngdicaaDoor.PX
set_option linter.unusedVariables false
set_option linter.unusedSimpArgs false
open Go.RowKit Go.Proofs.YtfefbnfmngdicaaDoorW.PrintWords

def bs (l : List UInt8) : ByteArray := ⟨l.toArray⟩
theorem bs_eq (x : ByteArray) : bs x.data.toList = x := rfl
theorem app_listV (a b : ByteArray) : (a ++ b).data.toList = a.data.toList ++ b.data.toList := by rw [ByteArray.data_append, Array.toList_append]
theorem wr {x : Int} (h0 : -9223372036854775808 ≤ x) (h1 : x ≤ 9223372036854775807) : wrap64 x = x := by unfold wrap64; omega
theorem wrn (i : Nat) (h : i ≤ 1000000000) : wrap64 ((i : Int) + 1) = ((i + 1 : Nat) : Int) := by rw [wr (by omega) (by omega)]; omega
theorem btn (s : ByteArray) (i : Nat) (h : i < s.size) : bt s (i : Int) = (s[i].toNat : Int) := (bt_at s (i : Int) (by rw [Int.toNat_natCast]; exact h)).symm
/-- Bytes as numbers. -/
def nm (l : List UInt8) : List Int := l.map fun c => (c.toNat : Int)
theorem nm_app (a b : List UInt8) : nm (a ++ b) = nm a ++ nm b := List.map_append
theorem nm_len (a : List UInt8) : (nm a).length = a.length := List.length_map _
theorem str_nm (l : List UInt8) : strOfNums (nm l) = bs l := by
  unfold strOfNums nm bs
  rw [List.map_map]
  have : l.map ((fun n : Int => UInt8.ofNat n.toNat) ∘ fun c : UInt8 => (c.toNat : Int)) = l := by
    conv => rhs; rw [← List.map_id l]
    refine List.map_congr_left (fun c _ => ?_)
    show UInt8.ofNat ((c.toNat : Int)).toNat = c
    rw [Int.toNat_natCast, UInt8.ofNat_toNat]
  rw [this]
theorem dropC (s : ByteArray) (i : Nat) (h : i < s.size) : s.data.toList.drop i = s[i] :: s.data.toList.drop (i + 1) := by
  rw [List.drop_eq_getElem_cons (by rw [sz_toList]; exact h)]; rfl
theorem hexBt (n : Nat) (h : n < 16) : bt (⟨#[48, 49, 50, 51, 52, 53, 54, 55, 56, 57, 97, 98, 99, 100, 101, 102]⟩ : ByteArray) (n : Int) = ((hexD n).toNat : Int) := by
  have h16 : n < (⟨#[48, 49, 50, 51, 52, 53, 54, 55, 56, 57, 97, 98, 99, 100, 101, 102]⟩ : ByteArray).size := h
  rw [btn _ n h16, hexAt n h16]

/-! ### Quote -/
theorem refQuote_l0 (s : ByteArray) (hs : s.size ≤ 1000000) : ∀ (j i k : Nat) (acc : List UInt8), s.size - i ≤ j → 2 * j + 1 ≤ k → i ≤ s.size → acc.length ≤ 4 * i + 1 →
    errataref02_Quote.l0 k s (nm acc) (i : Int) = some (bs (acc ++ ((s.data.toList.drop i).flatMap quoB ++ [34]))) := by
  intro j
  induction j with
  | zero =>
    intro i k acc hj hk hi ha
    obtain ⟨k, rfl⟩ : ∃ m, k = m + 1 := ⟨k - 1, by omega⟩
    simp only [errataref02_Quote.l0]
    rw [if_neg (by omega), nm_len, if_pos (by omega), show nm acc ++ [34] = nm (acc ++ [34]) from (nm_app acc [34]).symm, str_nm, List.drop_of_length_le (by rw [sz_toList]; omega)]
    rfl
  | succ j ih =>
    intro i k acc hj hk hi ha
    by_cases h : i < s.size
    · obtain ⟨k, rfl⟩ : ∃ m, k = m + 2 := ⟨k - 2, by omega⟩
      have hc := s[i].toNat_lt
      have step : ∀ q : List UInt8, quoB s[i] = q → errataref02_Quote.l0 k s (nm acc ++ nm q) ((i + 1 : Nat) : Int) = some (bs (acc ++ ((s.data.toList.drop i).flatMap quoB ++ [34]))) := fun q hq => by
        have hql := quoB_len s[i]
        rw [hq] at hql
        rw [← nm_app, ih (i + 1) k (acc ++ q) (by omega) (by omega) (by omega) (by rw [List.length_append]; omega), dropC s i h, List.flatMap_cons, hq]
        simp only [List.append_assoc]
      simp only [errataref02_Quote.l0]
      rw [if_pos (by omega), if_pos (by omega), btn s i h]
      revert step hc
      generalize s[i] = c
      intro hc step
      have fin : errataref02_Quote.j1 (k + 1) s (nm acc) (i : Int) (c.toNat : Int) (decide (c.toNat = 34 ∨ c.toNat = 92)) = some (bs (acc ++ ((s.data.toList.drop i).flatMap quoB ++ [34]))) := by
        simp only [errataref02_Quote.j1, Option.bind_some, nm_len]
        by_cases h1 : c.toNat = 34 ∨ c.toNat = 92
        · rw [decide_eq_true h1, if_pos rfl, if_pos (by show acc.length + 2 < _; omega), wrn i (by omega)]
          exact step [92, c] (if_pos h1)
        · rw [decide_eq_false h1, if_neg (by decide)]
          by_cases h2 : c.toNat = 10
          · rw [if_pos (by omega), if_pos (by show acc.length + 2 < _; omega), wrn i (by omega)]
            exact step [92, 110] (by unfold quoB; rw [if_neg h1, if_pos h2])
          · have hd1 : Int.tdiv (c.toNat : Int) 16 % 256 = ((c.toNat / 16 : Nat) : Int) := by rw [Int.tdiv_eq_ediv_of_nonneg (by omega)]; omega
            have hd2 : Int.tmod (c.toNat : Int) 16 = ((c.toNat % 16 : Nat) : Int) := by rw [Int.tmod_eq_emod_of_nonneg (by omega)]; omega
            have hx : quoB c = (if 32 ≤ c.toNat ∧ c.toNat ≤ 126 then [c] else [92, 120, hexD (c.toNat / 16), hexD (c.toNat % 16)]) := by unfold quoB; rw [if_neg h1, if_neg h2]
            rw [if_neg (by omega), hd1, hd2, hexBt _ (by omega), hexBt _ (by omega)]
            by_cases h3 : c.toNat < 32
            · rw [if_pos (by omega), if_pos (by omega), if_pos (by omega), if_pos (by omega), if_pos (by omega), if_pos (by show acc.length + 4 < _; omega), wrn i (by omega)]
              exact step _ (by rw [hx, if_neg (by omega)])
            · rw [if_neg (by omega)]
              by_cases h4 : c.toNat > 126
              · rw [if_pos (by omega), if_pos (by omega), if_pos (by omega), if_pos (by omega), if_pos (by omega), if_pos (by show acc.length + 4 < _; omega), wrn i (by omega)]
                exact step _ (by rw [hx, if_neg (by omega)])
              · rw [if_neg (by omega), if_pos (by omega), wrn i (by omega)]
                exact step [c] (by rw [hx, if_pos (by omega)])
      by_cases h1 : c.toNat = 34
      · rw [if_pos (by omega)]
        rw [decide_eq_true (show c.toNat = 34 ∨ c.toNat = 92 from .inl h1)] at fin
        exact fin
      · rw [if_neg (by omega)]
        have e : ((c.toNat : Int) == 92) = decide (c.toNat = 34 ∨ c.toNat = 92) := by
          rw [Bool.eq_iff_iff, beq_iff_eq, decide_eq_true_iff]; omega
        rw [e]
        exact fin
    · exact ih i k acc (by omega) (by omega) hi ha
theorem refQuote (s : ByteArray) (hs : s.size ≤ 1000000) (k : Nat) (hk : 2 * s.size + 1 ≤ k) : errataref02_Quote.f k s = some (bs (quo s.data.toList)) := by
  unfold errataref02_Quote.f
  exact refQuote_l0 s hs s.size 0 k [34] (by omega) hk (by omega) (by show 1 ≤ _; omega)

/-! ### Decimal -/
theorem bs_sz (l : List UInt8) : (bs l).size = l.length := by unfold bs; rw [ByteArray.size, List.size_toArray]
theorem bs_app (a b : List UInt8) : bs a ++ bs b = bs (a ++ b) := by
  rw [← bs_eq (bs a ++ bs b), app_listV]
  rfl
theorem dec_one (d : Nat) (h : d < 10) : strOfNums [wrap64 (48 + (d : Int)) % 256] = bs [UInt8.ofNat (48 + d)] := by
  rw [wr (by omega) (by omega), show (48 + (d : Int)) % 256 = ((48 + d : Nat) : Int) by omega]
  rfl
theorem refDec_pos (u : Nat) : ∀ (k : Nat), u ≤ 9223372036854775807 → u < 10 ^ k → errataref02_Decimal.f (2 * k + 2) (u : Int) = some (bs (Lib.decDigits u)) := by
  induction u using Nat.strongRecOn with
  | _ u ih =>
    intro k hb hk
    show errataref02_Decimal.f ((2 * k + 1) + 1) _ = _
    simp only [errataref02_Decimal.f]
    rw [if_pos (by omega)]
    show errataref02_Decimal.j0 ((2 * k) + 1) _ _ = _
    simp only [errataref02_Decimal.j0]
    by_cases hu : u < 10
    · rw [decide_eq_true (by omega), if_pos rfl, dec_one u hu, dec_small hu]
    · cases k with
      | zero => rw [Nat.pow_zero] at hk; omega
      | succ k =>
        have hk2 : u / 10 < 10 ^ k := by rw [Nat.pow_succ] at hk; omega
        have hd : wrap64 (Int.tdiv (u : Int) 10) = ((u / 10 : Nat) : Int) := by rw [Int.tdiv_eq_ediv_of_nonneg (by omega), wr (by omega) (by omega)]; omega
        have hm : Int.tmod (u : Int) 10 = ((u % 10 : Nat) : Int) := by rw [Int.tmod_eq_emod_of_nonneg (by omega)]; omega
        have h1 : 1 ≤ k := by
          rcases Nat.eq_zero_or_pos k with rfl | h
          · rw [Nat.pow_zero] at hk2; omega
          · exact h
        have hp1 : u % 10 < 10 ^ k := by
          have : 10 ^ 1 ≤ 10 ^ k := Nat.pow_le_pow_right (by decide) h1
          omega
        have e1 := ih (u / 10) (by omega) k (by omega) hk2
        have e2 := ih (u % 10) (by omega) k (by omega) hp1
        have l1 := Lib.itoa_length_le ((u / 10 : Nat) : Int) (by omega) (by omega)
        have l2 := Lib.itoa_length_le ((u % 10 : Nat) : Int) (by omega) (by omega)
        rw [Lib.itoa_nonneg] at l1 l2
        rw [decide_eq_false (by omega), if_neg (by decide), if_pos (by omega), hd, hm, show 2 * (k + 1) = 2 * k + 2 by omega, e1, e2]
        simp only [Option.bind_some]
        have s1 : (bs (Lib.decDigits (u / 10))).size ≤ 21 := by unfold bs; rw [ByteArray.size, List.size_toArray]; exact l1
        have s2 : (bs (Lib.decDigits (u % 10))).size ≤ 21 := by unfold bs; rw [ByteArray.size, List.size_toArray]; exact l2
        rw [if_pos (by omega), dec_big hu, dec_small (show u % 10 < 10 from Nat.mod_lt _ (by decide))]
        rw [bs_app]
theorem refDec_mono (m : Nat) (x : Int) (r : ByteArray) (h : errataref02_Decimal.f m x = some r) : ∀ d, errataref02_Decimal.f (m + d) x = some r
  | 0 => h
  | d + 1 => errataref02_Decimal.mono x (m + d) r (refDec_mono m x r h d)
theorem refDec_pos2 (u m : Nat) (hu : u ≤ 9223372036854775807) (hm : 40 ≤ m) : errataref02_Decimal.f m (u : Int) = some (bs (Lib.decDigits u)) := by
  have := refDec_mono _ _ _ (refDec_pos u 19 hu (by omega)) (m - 40)
  rwa [show 2 * 19 + 2 + (m - 40) = m by omega] at this
theorem dec_len (u : Nat) (h : u ≤ 9223372036854775807) : (Lib.decDigits u).length ≤ 21 := by
  have := Lib.itoa_length_le (u : Int) (by omega) (by omega)
  rwa [Lib.itoa_nonneg] at this
theorem refDec_neg (v : Nat) : ∀ (d m : Nat), 1 ≤ v → v ≤ 9223372036854775808 → v < 10 ^ d → 2 * d + 42 ≤ m → errataref02_Decimal.f m (-(v : Int)) = some (bs (45 :: Lib.decDigits v)) := by
  induction v using Nat.strongRecOn with
  | _ v ih =>
    intro d m hv1 hv2 hd hm
    obtain ⟨m, rfl⟩ : ∃ q, m = q + 2 := ⟨m - 2, by omega⟩
    simp only [errataref02_Decimal.f]
    rw [if_neg (by omega)]
    simp only [errataref02_Decimal.j0]
    rw [if_neg (by decide), if_neg (by omega)]
    by_cases h10 : -(v : Int) > -10
    · rw [if_pos h10, show wrap64 (- -(v : Int)) = (v : Int) by rw [wr (by omega) (by omega)]; omega, refDec_pos2 v m (by omega) (by omega)]
      simp only [Option.bind_some]
      have l1 := dec_len v (by omega)
      rw [if_pos (by rw [bs_sz]; omega), show (⟨#[45]⟩ : ByteArray) = bs [45] from rfl, bs_app]
      rfl
    · cases d with
      | zero => rw [Nat.pow_zero] at hd; omega
      | succ d =>
        have hdd : wrap64 (Int.tdiv (-(v : Int)) 10) = -((v / 10 : Nat) : Int) := by
          rw [Int.neg_tdiv, Int.tdiv_eq_ediv_of_nonneg (by omega), wr (by omega) (by omega)]; omega
        have hmm : wrap64 (-(Int.tmod (-(v : Int)) 10)) = ((v % 10 : Nat) : Int) := by
          rw [Int.neg_tmod, Int.tmod_eq_emod_of_nonneg (by omega), wr (by omega) (by omega)]; omega
        have l1 := dec_len (v / 10) (by omega)
        have l2 := dec_len (v % 10) (by omega)
        rw [if_neg h10, hdd, hmm, ih (v / 10) (by omega) d m (by omega) (by omega) (by rw [Nat.pow_succ] at hd; omega) (by omega), refDec_pos2 (v % 10) m (by omega) (by omega)]
        simp only [Option.bind_some]
        rw [if_pos (by rw [bs_sz, bs_sz, List.length_cons]; omega), bs_app, dec_big (show ¬ v < 10 by omega), dec_small (show v % 10 < 10 from Nat.mod_lt _ (by decide))]
        rfl
theorem refDec (n : Int) (h0 : -9223372036854775808 ≤ n) (h1 : n ≤ 9223372036854775807) (k : Nat) (hk : 80 ≤ k) : errataref02_Decimal.f k n = some (bs (Lib.itoa n)) := by
  by_cases hn : 0 ≤ n
  · obtain ⟨u, rfl⟩ := Int.eq_ofNat_of_zero_le hn
    rw [Lib.itoa_nonneg]
    exact refDec_pos2 u k (by omega) (by omega)
  · obtain ⟨u, hu⟩ := Int.eq_ofNat_of_zero_le (show 0 ≤ -n by omega)
    obtain rfl : n = -(u : Int) := by omega
    rw [Lib.itoa_neg u (by omega)]
    exact refDec_neg u 19 k (by omega) (by omega) (by omega) (by omega)
theorem bs_list' (l : List UInt8) : (bs l).data.toList = l := rfl

/-! ### Int -/
theorem int_has {v : Int} (h0 : -9223372036854775808 ≤ v) (h1 : v ≤ 9223372036854775807) {l : List UInt8} (h : Lib.itoa v = l) : intOf64 l = (v, true) := by
  unfold intOf64
  rw [← h, parse_itoa v h0 h1]
  simp only
  rw [if_pos trivial]
theorem int_none {l : List UInt8} (h : ∀ v : Int, -9223372036854775808 ≤ v → v ≤ 9223372036854775807 → Lib.itoa v ≠ l) : intOf64 l = (0, false) := by
  unfold intOf64
  split
  · rename_i v hp
    have hb := Lib.parseIntB_bounds hp
    have hb1 : -9223372036854775808 ≤ v := by have := hb.1; simp at this; omega
    have hb2 : v ≤ 9223372036854775807 := by have := hb.2; simp at this; omega
    rw [if_neg (h v hb1 hb2)]
  · rfl
/-- The number below nothing that digits make, as the reference reckons it. -/
def accF : List UInt8 → Int → Option Int
  | [], n => some n
  | c :: r, n => if (c.toNat : Int) < 48 then none else if (c.toNat : Int) > 57 then none else accF r (wrap64 (wrap64 (n * 10) - (((c.toNat : Int) - 48) % 256)))
theorem accF_app (b : List UInt8) : ∀ (a : List UInt8) (n : Int), accF (a ++ b) n = (accF a n).bind (accF b)
  | [], n => rfl
  | c :: a, n => by
    rw [List.cons_append]
    unfold accF
    by_cases h1 : (c.toNat : Int) < 48
    · rw [if_pos h1, if_pos h1]; rfl
    · rw [if_neg h1, if_neg h1]
      by_cases h2 : (c.toNat : Int) > 57
      · rw [if_pos h2, if_pos h2]; rfl
      · rw [if_neg h2, if_neg h2, accF_app b a]
theorem accF_one (d : Nat) (h : d < 10) (n : Int) (hn : -922337203685477580 ≤ n) (h2 : n ≤ 0) (h3 : -9223372036854775808 ≤ n * 10 - d) : accF [UInt8.ofNat (48 + d)] n = some (n * 10 - d) := by
  have e : (UInt8.ofNat (48 + d)).toNat = 48 + d := by rw [UInt8.toNat_ofNat']; omega
  unfold accF accF
  rw [e, if_neg (by omega), if_neg (by omega), wr (x := n * 10) (by omega) (by omega), show (((48 + d : Nat) : Int) - 48) % 256 = (d : Int) by omega, wr (by omega) (by omega)]
theorem accF_dec (u : Nat) (hu : u ≤ 9223372036854775808) : accF (Lib.decDigits u) 0 = some (-(u : Int)) := by
  induction u using Nat.strongRecOn with
  | _ u ih =>
    by_cases h : u < 10
    · rw [dec_small h, accF_one u h 0 (by omega) (by omega) (by omega)]
      congr 1
      omega
    · rw [dec_big h, accF_app, ih (u / 10) (by omega) (by omega), Option.bind_some, accF_one _ (Nat.mod_lt _ (by decide)) _ (by omega) (by omega) (by omega)]
      congr 1
      omega
theorem accF_range : ∀ (l : List UInt8) (n N : Int), -9223372036854775808 ≤ n → n ≤ 9223372036854775807 → accF l n = some N → -9223372036854775808 ≤ N ∧ N ≤ 9223372036854775807
  | [], n, N, h0, h1, h => by
    injection h with h
    omega
  | c :: l, n, N, h0, h1, h => by
    unfold accF at h
    split at h
    · cases h
    · split at h
      · cases h
      · exact accF_range l _ N (by unfold wrap64; omega) (by unfold wrap64; omega) h
/-- What the reference does at the end: it reads its own decimal back. -/
def intFin (s : ByteArray) (n : Int) : Int × Bool :=
  if s.data.toList.head? = some 45 then (if Lib.itoa n = s.data.toList then (n, true) else (0, false))
  else (if Lib.itoa (wrap64 (-n)) = s.data.toList then (wrap64 (-n), true) else (0, false))
theorem bt_head (s : ByteArray) (h : 0 < s.size) (c : UInt8) : bt s 0 = (c.toNat : Int) ↔ s.data.toList.head? = some c := by
  have := btn s 0 h
  rw [show bt s 0 = (s[0].toNat : Int) from this]
  have e : s.data.toList = s[0] :: s.data.toList.drop 1 := dropC s 0 h
  rw [e]
  constructor
  · intro h2
    have : s[0] = c := UInt8.toNat_inj.1 (by omega)
    rw [this]; rfl
  · intro h2
    have := Option.some.inj h2
    rw [this]
theorem fin_ite (x : List UInt8) (s : ByteArray) (v : Int × Bool) : (if (bs x).toList = s.toList then some v else some (0, false)) = some (if x = s.data.toList then v else (0, false)) := by
  by_cases h : x = s.data.toList
  · rw [if_pos h, if_pos (by rw [Lib.toList_data, Lib.toList_data]; exact h)]
  · rw [if_neg h, if_neg (by rw [Lib.toList_data, Lib.toList_data]; exact h)]
theorem refInt_l0 (s : ByteArray) (h0 : 0 < s.size) (h20 : s.size ≤ 20) : ∀ (j i k : Nat) (n : Int), s.size - i ≤ j → 2 * j + 100 ≤ k → i ≤ s.size → -9223372036854775808 ≤ n → n ≤ 9223372036854775807 → (i = 0 → s.data.toList.head? ≠ some 45) →
    errataref02_Int.l0 k s n (i : Int) = some (match accF (s.data.toList.drop i) n with | none => (0, false) | some N => intFin s N) := by
  intro j
  induction j with
  | zero =>
    intro i k n hj hk hi hn0 hn1 hz
    obtain ⟨k, rfl⟩ : ∃ m, k = m + 1 := ⟨k - 1, by omega⟩
    have hw : -9223372036854775808 ≤ wrap64 (-n) ∧ wrap64 (-n) ≤ 9223372036854775807 := by unfold wrap64; omega
    simp only [errataref02_Int.l0]
    rw [if_neg (by omega), if_pos (by omega), List.drop_of_length_le (by rw [sz_toList]; omega)]
    simp only [accF]
    unfold intFin
    have hb : bt s 0 = 45 ↔ s.data.toList.head? = some 45 := bt_head s h0 45
    by_cases h45 : s.data.toList.head? = some 45
    · rw [if_pos (hb.2 h45), if_pos h45, refDec n hn0 hn1 k (by omega)]
      simp only [Option.bind_some]
      exact fin_ite _ _ _
    · rw [if_neg (fun e => h45 (hb.1 e)), if_neg h45, refDec _ hw.1 hw.2 k (by omega)]
      simp only [Option.bind_some]
      exact fin_ite _ _ _
  | succ j ih =>
    intro i k n hj hk hi hn0 hn1 hz
    by_cases h : i < s.size
    · obtain ⟨k, rfl⟩ : ∃ m, k = m + 2 := ⟨k - 2, by omega⟩
      have fin : errataref02_Int.j2 (k + 1) s n (i : Int) false = some (match accF (s.data.toList.drop i) n with | none => (0, false) | some N => intFin s N) := by
        simp only [errataref02_Int.j2]
        rw [if_neg (by decide), if_pos (by omega), if_pos (by omega), btn s i h, dropC s i h]
        simp only [accF]
        by_cases h1 : (s[i].toNat : Int) < 48
        · rw [if_pos h1, if_pos h1]
        · rw [if_neg h1, if_neg h1]
          by_cases h2 : (s[i].toNat : Int) > 57
          · rw [if_pos h2, if_pos h2]
          · rw [if_neg h2, if_neg h2, wrn i (by omega)]
            exact ih (i + 1) k _ (by omega) (by omega) (by omega) (by unfold wrap64; omega) (by unfold wrap64; omega) (fun e => by omega)
      simp only [errataref02_Int.l0]
      rw [if_pos (by omega)]
      by_cases hi0 : i = 0
      · subst hi0
        have hb : bt s 0 = 45 ↔ s.data.toList.head? = some 45 := bt_head s h0 45
        have e : (bt s 0 == 45) = false := beq_eq_false_iff_ne.2 (fun e => hz rfl (hb.1 e))
        rw [if_pos (by omega), if_pos (by omega), e]
        exact fin
      · rw [if_neg (by omega)]
        exact fin
    · exact ih i k n (by omega) (by omega) hi hn0 hn1 hz
theorem itoa_20 (v : Int) (h0 : -9223372036854775808 ≤ v) (h1 : v ≤ 9223372036854775807) : 1 ≤ (Lib.itoa v).length ∧ (Lib.itoa v).length ≤ 20 := by
  have len : ∀ (d u : Nat), u < 10 ^ (d + 1) → 1 ≤ (Lib.decDigits u).length ∧ (Lib.decDigits u).length ≤ d + 1 := by
    intro d
    induction d with
    | zero => intro u hu; rw [dec_small (by simpa using hu)]; exact ⟨Nat.le_refl _, Nat.le_refl _⟩
    | succ d ih =>
      intro u hu
      by_cases h : u < 10
      · rw [dec_small h]; exact ⟨Nat.le_refl _, by show 1 ≤ _; omega⟩
      · have := ih (u / 10) (by rw [Nat.pow_succ] at hu; omega)
        rw [dec_big h, List.length_append, List.length_singleton]
        omega
  by_cases hv : v < 0
  · obtain ⟨u, hu⟩ := Int.eq_ofNat_of_zero_le (show 0 ≤ -v by omega)
    obtain rfl : v = -(u : Int) := by omega
    have := len 18 u (by omega)
    rw [Lib.itoa_neg u (by omega), List.length_cons]
    omega
  · obtain ⟨u, rfl⟩ := Int.eq_ofNat_of_zero_le (show 0 ≤ v by omega)
    have := len 18 u (by omega)
    rw [Lib.itoa_nonneg]
    omega
theorem intFin_eq (s : ByteArray) (N : Int) (h0 : -9223372036854775808 ≤ N) (h1 : N ≤ 9223372036854775807) (hs : ∀ v : Int, -9223372036854775808 ≤ v → v ≤ 9223372036854775807 → Lib.itoa v = s.data.toList → accF (s.data.toList.drop (if s.data.toList.head? = some 45 then 1 else 0)) 0 = some N → (if s.data.toList.head? = some 45 then N else wrap64 (-N)) = v)
    (ha : accF (s.data.toList.drop (if s.data.toList.head? = some 45 then 1 else 0)) 0 = some N) : intFin s N = intOf64 s.data.toList := by
  have hw : -9223372036854775808 ≤ wrap64 (-N) ∧ wrap64 (-N) ≤ 9223372036854775807 := by unfold wrap64; omega
  unfold intFin
  by_cases h45 : s.data.toList.head? = some 45
  · rw [if_pos h45]
    by_cases he : Lib.itoa N = s.data.toList
    · rw [if_pos he, int_has h0 h1 he]
    · rw [if_neg he, int_none]
      intro v hv0 hv1 hv
      have := hs v hv0 hv1 hv ha
      rw [if_pos h45] at this
      exact he (by rw [this]; exact hv)
  · rw [if_neg h45]
    by_cases he : Lib.itoa (wrap64 (-N)) = s.data.toList
    · rw [if_pos he, int_has hw.1 hw.2 he]
    · rw [if_neg he, int_none]
      intro v hv0 hv1 hv
      have := hs v hv0 hv1 hv ha
      rw [if_neg h45] at this
      exact he (by rw [this]; exact hv)
theorem acc_itoa (v : Int) (h0 : -9223372036854775808 ≤ v) (h1 : v ≤ 9223372036854775807) :
    ∃ N, accF ((Lib.itoa v).drop (if (Lib.itoa v).head? = some 45 then 1 else 0)) 0 = some N ∧ (if (Lib.itoa v).head? = some 45 then N else wrap64 (-N)) = v := by
  by_cases hv : v < 0
  · obtain ⟨u, hu⟩ := Int.eq_ofNat_of_zero_le (show 0 ≤ -v by omega)
    obtain rfl : v = -(u : Int) := by omega
    rw [Lib.itoa_neg u (by omega)]
    refine ⟨-(u : Int), ?_, ?_⟩
    · rw [if_pos (show (45 :: Lib.decDigits u).head? = some 45 from rfl)]
      exact accF_dec u (by omega)
    · rw [if_pos (show (45 :: Lib.decDigits u).head? = some 45 from rfl)]
  · obtain ⟨u, rfl⟩ := Int.eq_ofNat_of_zero_le (show 0 ≤ v by omega)
    obtain ⟨c, r, e, hc1, hc2⟩ := dec_head u
    have hn : ¬ (Lib.decDigits u).head? = some 45 := by
      rw [e]
      intro h
      have := Option.some.inj h
      rw [this] at hc1
      exact absurd hc1 (by decide)
    rw [Lib.itoa_nonneg]
    refine ⟨-(u : Int), ?_, ?_⟩
    · rw [if_neg hn]
      exact accF_dec u (by omega)
    · rw [if_neg hn, wr (by omega) (by omega)]
      omega
theorem refInt (s : ByteArray) (k : Nat) (hk : 200 ≤ k) : errataref02_Int.f k s = some (intOf64 s.data.toList) := by
  obtain ⟨k, rfl⟩ : ∃ m, k = m + 3 := ⟨k - 3, by omega⟩
  have hls : s.data.toList.length = s.size := sz_toList s
  have bad : (s.size = 0 ∨ 20 < s.size) → intOf64 s.data.toList = (0, false) := fun h => int_none (fun v h0 h1 hv => by
    have := itoa_20 v h0 h1
    rw [hv, hls] at this
    omega)
  unfold errataref02_Int.f
  by_cases h0 : s.size = 0
  · rw [if_pos (by omega)]
    simp only [errataref02_Int.j0]
    rw [if_pos trivial, bad (.inl h0)]
  · rw [if_neg (by omega)]
    by_cases h20 : 20 < s.size
    · rw [decide_eq_true (by omega)]
      simp only [errataref02_Int.j0]
      rw [if_pos trivial, bad (.inr h20)]
    · rw [decide_eq_false (by omega)]
      simp only [errataref02_Int.j0]
      rw [if_neg (by decide)]
      have e : ∀ R : Option Int, R = accF (s.data.toList.drop (if s.data.toList.head? = some 45 then 1 else 0)) 0 → (match R with | none => ((0 : Int), false) | some N => intFin s N) = intOf64 s.data.toList := by
        rintro R hR
        rcases R with _ | N
        · refine (int_none (fun v h0 h1 hv => ?_)).symm
          obtain ⟨N, hN, _⟩ := acc_itoa v h0 h1
          rw [hv] at hN
          rw [hN] at hR
          cases hR
        · have hr := accF_range _ _ _ (by omega) (by omega) hR.symm
          refine intFin_eq s N hr.1 hr.2 (fun v h0 h1 hv ha => ?_) hR.symm
          obtain ⟨M, hM, hM2⟩ := acc_itoa v h0 h1
          rw [hv] at hM hM2
          rw [ha] at hM
          rw [Option.some.inj hM]
          exact hM2
      by_cases h45 : s.data.toList.head? = some 45
      · have hb := (bt_head s (by omega) 45).2 h45
        rw [if_pos h45] at e
        simp only [errataref02_Int.l0]
        rw [if_pos (by omega), if_pos trivial, if_pos (by omega), show (bt s 0 == 45) = true from beq_iff_eq.2 hb]
        show errataref02_Int.j2 (k + 1) s 0 0 true = _
        simp only [errataref02_Int.j2]
        rw [if_pos trivial, show wrap64 ((0 : Int) + 1) = ((1 : Nat) : Int) by rw [wr (by omega) (by omega)]; rfl, refInt_l0 s (by omega) (by omega) s.size 1 k 0 (by omega) (by omega) (by omega) (by omega) (by omega) (fun h => by omega)]
        exact congrArg some (e _ rfl)
      · rw [if_neg h45] at e
        show errataref02_Int.l0 (k + 2) s 0 ((0 : Nat) : Int) = _
        rw [refInt_l0 s (by omega) (by omega) s.size 0 (k + 2) 0 (by omega) (by omega) (by omega) (by omega) (by omega) (fun _ => h45)]
        exact congrArg some (e _ rfl)

/-! ### Unquote -/
def hxV (c : UInt8) : Nat := ((List.range 16).find? fun n => hexD n == c).getD 0
theorem hxV_hex : ∀ n, n < 16 → hxV (hexD n) = n := by decide
theorem hxV_lt (c : UInt8) : hxV c < 16 := by
  have e := all_u8 (fun c => decide (hxV c < 16)) (by decide +kernel) c
  exact of_decide_eq_true e
theorem errataref02_digit.mono_l : ∀ k, (∀ y0 y1, LeO (errataref02_digit.l0 k y0 y1) (errataref02_digit.l0 (k + 1) y0 y1))
  | 0 => fun _ _ r h => by simp [errataref02_digit.l0] at h
  | k + 1 => by
    have ih0 := errataref02_digit.mono_l k
    · intro y0 y1
      unfold errataref02_digit.l0
      repeat' first
      | (with_reducible exact ih0 _ _)
      | (with_reducible exact LeO.refl _)
      | (with_reducible exact LeO.none _)
      | (with_reducible refine LeO.ite ?_ ?_)
      | (with_reducible refine LeO.bind ?_ (fun _ => ?_))
      | exact ih0 _ _
      | exact LeO.none _
      | refine LeO.ite ?_ ?_
      | refine LeO.bind ?_ (fun _ => ?_)
theorem errataref02_digit.mono : ∀ a0 k, LeO (errataref02_digit.f k a0) (errataref02_digit.f (k + 1) a0) := by
  intro a0 k
  have ih0 := errataref02_digit.mono_l k
  unfold errataref02_digit.f
  repeat' first
      | (with_reducible exact ih0 _ _)
      | (with_reducible exact LeO.refl _)
      | (with_reducible exact LeO.none _)
      | (with_reducible refine LeO.ite ?_ ?_)
      | (with_reducible refine LeO.bind ?_ (fun _ => ?_))
      | exact ih0 _ _
      | exact LeO.none _
      | refine LeO.ite ?_ ?_
      | refine LeO.bind ?_ (fun _ => ?_)

theorem refDigit (c : UInt8) (k : Nat) (hk : 20 ≤ k) : errataref02_digit.f k (c.toNat : Int) = some (hxV c : Int) := by
  have e := all_u8 (fun c => errataref02_digit.f 20 (c.toNat : Int) == some (hxV c : Int)) (by decide +kernel) c
  have e := beq_iff_eq.1 e
  have mono : ∀ d, errataref02_digit.f (20 + d) (c.toNat : Int) = some (hxV c : Int) := by
    intro d
    induction d with
    | zero => exact e
    | succ d ih => exact errataref02_digit.mono _ (20 + d) _ ih
  have := mono (k - 20)
  rwa [show 20 + (k - 20) = k by omega] at this
def rqX (f : List UInt8 → List UInt8) : List UInt8 → List UInt8
  | a :: b :: r => UInt8.ofNat (hxV a * 16 + hxV b) :: f r
  | r => 120 :: f r
theorem rqX_two (f : List UInt8 → List UInt8) (a b : UInt8) (r : List UInt8) : rqX f (a :: b :: r) = UInt8.ofNat (hxV a * 16 + hxV b) :: f r := rfl
theorem rqX_short (f : List UInt8 → List UInt8) : ∀ r : List UInt8, r.length < 2 → rqX f r = 120 :: f r
  | [], _ => rfl
  | [_], _ => rfl
  | _ :: _ :: _, h => by simp only [List.length_cons] at h; omega
/-- What the reference reads between the quotes. -/
def rqF : Nat → List UInt8 → List UInt8
  | 0, _ => []
  | _ + 1, [] => []
  | k + 1, c :: r => if c = 92 then
      (match r with
       | [] => [92]
       | d :: r => if d = 110 then 10 :: rqF k r else if d = 120 then rqX (rqF k) r else d :: rqF k r)
    else c :: rqF k r
theorem rq_quoB (k : Nat) (c : UInt8) (r : List UInt8) : rqF (k + 1) (quoB c ++ r) = c :: rqF k r := by
  have hc := c.toNat_lt
  unfold quoB
  split
  · rename_i h
    show (if (92 : UInt8) = 92 then (if c = 110 then 10 :: rqF k r else if c = 120 then _ else c :: rqF k r) else _) = _
    have h1 : c ≠ 110 := by rintro rfl; revert h; decide
    have h2 : c ≠ 120 := by rintro rfl; revert h; decide
    rw [if_pos rfl, if_neg h1, if_neg h2]
  · rename_i h1
    split
    · rename_i h
      show (if (92 : UInt8) = 92 then (if (110 : UInt8) = 110 then 10 :: rqF k r else _) else _) = _
      rw [if_pos rfl, if_pos rfl]
      have : c = 10 := UInt8.toNat_inj.1 h
      rw [this]
    · split
      · show (if c = 92 then _ else c :: rqF k r) = _
        rw [if_neg (by rintro rfl; exact h1 (.inr rfl))]
      · show (if (92 : UInt8) = 92 then (if (120 : UInt8) = 110 then _ else if (120 : UInt8) = 120 then rqX (rqF k) (hexD (c.toNat / 16) :: hexD (c.toNat % 16) :: r) else _) else _) = _
        rw [if_pos rfl, if_neg (by decide), if_pos rfl, rqX_two, hxV_hex _ (by omega), hxV_hex _ (by omega), show c.toNat / 16 * 16 + c.toNat % 16 = c.toNat by omega, UInt8.ofNat_toNat]
theorem rq_flat : ∀ (l : List UInt8) (k : Nat), l.length ≤ k → rqF k (l.flatMap quoB) = l
  | [], 0, _ => rfl
  | [], k + 1, _ => rfl
  | c :: l, 0, h => absurd h (Nat.not_succ_le_zero _)
  | c :: l, k + 1, h => by
    rw [List.flatMap_cons, rq_quoB, rq_flat l k (by rw [List.length_cons] at h; omega)]
theorem nm_snoc (acc : List UInt8) (x : UInt8) : nm acc ++ [(x.toNat : Int)] = nm (acc ++ [x]) := (nm_app acc [x]).symm
theorem hx_ev (a b : Nat) (ha : a < 16) (hb : b < 16) : (((a : Int) * 16) % 256 + (b : Int)) % 256 = (((UInt8.ofNat (a * 16 + b)).toNat : Nat) : Int) := by
  rw [UInt8.toNat_ofNat']; omega
/-- What the reference does at the end. -/
def unqFin (s : ByteArray) (out : List UInt8) : ByteArray × Bool := if quo out = s.data.toList then (bs out, true) else (⟨#[]⟩, false)
theorem refUnq_end (s : ByteArray) (out : List UInt8) (ho : out.length ≤ 1000000) (k : Nat) (hk : 2 * out.length + 1 ≤ k) :
    ((errataref02_Quote.f k (strOfNums (nm out))).bind fun t134 => (if t134.toList = s.toList then (some (strOfNums (nm out), true)) else (some ((⟨#[]⟩ : ByteArray), false)))) = some (unqFin s out) := by
  rw [str_nm, refQuote (bs out) (by rw [bs_sz]; exact ho) k (by rw [bs_sz]; exact hk), bs_list']
  simp only [Option.bind_some]
  unfold unqFin
  by_cases h : quo out = s.data.toList
  · rw [if_pos h, if_pos (by rw [Lib.toList_data, Lib.toList_data]; exact h)]
  · rw [if_neg h, if_neg (by rw [Lib.toList_data, Lib.toList_data]; exact h)]
theorem unq_two (k : Nat) (s : ByteArray) (acc : List UInt8) (i : Nat) (c : Int) (p q : UInt8) (x : UInt8) (hi : i + 1 < s.size) (hs : s.size ≤ 100000) (ha : acc.length ≤ s.size) (hk : 20 ≤ k) (hp : bt s (i : Int) = (p.toNat : Int)) (hq : bt s ((i + 1 : Nat) : Int) = (q.toNat : Int)) (hx : UInt8.ofNat (hxV p * 16 + hxV q) = x) :
    errataref02_Unquote.j2 (k + 1) s (nm acc) (i : Int) c true = errataref02_Unquote.l0 k s (nm (acc ++ [x])) ((i + 2 : Nat) : Int) := by
  have ha1 := hxV_lt p
  have ha2 := hxV_lt q
  have e1 := refDigit p k hk
  have e2 := refDigit q k hk
  revert ha1 ha2 e1 e2 hx
  generalize hxV p = a
  generalize hxV q = b
  intro hx ha1 ha2 e1 e2
  have ev := hx_ev a b ha1 ha2
  rw [hx] at ev
  simp only [errataref02_Unquote.j2]
  rw [if_pos trivial, if_pos (by omega), if_pos (by omega), hp, e1, Option.bind_some, wrn i (by omega), if_pos (by omega), if_pos (by omega), hq, e2, Option.bind_some, nm_len, if_pos (by omega), ev, nm_snoc, show wrap64 ((i : Int) + 2) = ((i + 2 : Nat) : Int) by rw [wr (by omega) (by omega)]; omega]
theorem refUnq_l0 (s : ByteArray) (h0 : 1 ≤ s.size) (hs : s.size ≤ 100000) : ∀ (j i k : Nat) (acc : List UInt8), s.size - 1 - i ≤ j → 3 * j + 2 * s.size + 40 ≤ k → i ≤ s.size → acc.length ≤ i →
    errataref02_Unquote.l0 k s (nm acc) (i : Int) = some (unqFin s (acc ++ rqF j ((s.data.toList.take (s.size - 1)).drop i))) := by
  have hw : wrap64 ((s.size : Int) - 1) = ((s.size - 1 : Nat) : Int) := by rw [wr (by omega) (by omega)]; omega
  have HW := Aside0.mk hw
  have hMl : (s.data.toList.take (s.size - 1)).length = s.size - 1 := by rw [List.length_take, sz_toList]; omega
  have dM : ∀ i (h : i < s.size - 1), (s.data.toList.take (s.size - 1)).drop i = s[i]'(by omega) :: (s.data.toList.take (s.size - 1)).drop (i + 1) := fun i h => by
    rw [List.drop_eq_getElem_cons (by rw [hMl]; exact h)]
    congr 1
    rw [List.getElem_take]
    rfl
  clear hw
  intro j
  induction j with
  | zero =>
    intro i k acc hj hk hi ha
    obtain ⟨k, rfl⟩ : ∃ m, k = m + 1 := ⟨k - 1, by omega⟩
    simp only [errataref02_Unquote.l0]
    rw [HW.out, if_neg (by omega), refUnq_end s acc (by omega) k (by omega)]
    unfold rqF
    rw [List.append_nil]
  | succ j ih =>
    intro i k acc hj hk hi ha
    by_cases h : i < s.size - 1
    · obtain ⟨k, rfl⟩ : ∃ m, k = m + 3 := ⟨k - 3, by omega⟩
      have w1 := Aside0.mk (wrn i (by omega))
      simp only [errataref02_Unquote.l0]
      rw [HW.out, if_pos (by omega), if_pos (by omega), if_pos (by omega), btn s i (by omega), w1.out, dM i h]
      by_cases h92 : s[i] = 92
      · have e92 : (s[i].toNat : Int) = 92 := by rw [h92]; rfl
        rw [if_pos e92]
        by_cases h1 : i + 1 < s.size - 1
        · have w2 := Aside0.mk (wrn (i + 1) (by omega))
          rw [decide_eq_true (show (((i + 1 : Nat) : Int)) < ((s.size - 1 : Nat) : Int) by omega), dM (i + 1) h1]
          have e : ∀ r, rqF (j + 1) (s[i] :: s[i + 1]'(by omega) :: r) = if s[i + 1]'(by omega) = 110 then 10 :: rqF j r else if s[i + 1]'(by omega) = 120 then rqX (rqF j) r else s[i + 1]'(by omega) :: rqF j r := fun r => if_pos h92
          rw [e]
          simp only [errataref02_Unquote.j1]
          rw [if_pos trivial, if_pos (by omega), if_pos (by omega), btn s (i + 1) (by omega), w2.out]
          by_cases hn : s[i + 1] = 110
          · rw [if_pos (show ((s[i + 1].toNat : Nat) : Int) = 110 by rw [hn]; rfl), if_pos hn, nm_len, if_pos (by omega), show nm acc ++ [10] = nm (acc ++ [10]) from (nm_app acc [10]).symm, ih (i + 1 + 1) (k + 1) (acc ++ [10]) (by omega) (by omega) (by omega) (by rw [List.length_append, List.length_singleton]; omega), List.append_assoc]
            rfl
          · have hn' : ¬ ((s[i + 1].toNat : Nat) : Int) = 110 := fun e => hn (u8_eq (n := 110) (by omega) (by decide))
            rw [if_neg hn', if_neg hn]
            by_cases hx : s[i + 1] = 120
            · have ex : ((s[i + 1].toNat : Nat) : Int) = 120 := by rw [hx]; rfl
              have w3 := Aside0.mk (wrn (i + 1 + 1) (by omega))
              rw [if_pos ex, if_pos hx, w3.out, HW.out]
              by_cases h2 : i + 1 + 1 + 1 < s.size - 1
              · rw [decide_eq_true (show (((i + 1 + 1 + 1 : Nat) : Int)) < ((s.size - 1 : Nat) : Int) by omega), dM (i + 1 + 1) (by omega), dM (i + 1 + 1 + 1) (by omega), rqX_two, show i + 1 + 1 + 1 + 1 = i + 1 + 1 + 2 by omega]
                obtain ⟨z, hz⟩ : ∃ z, UInt8.ofNat (hxV (s[i + 1 + 1]'(by omega)) * 16 + hxV (s[i + 1 + 1 + 1]'(by omega))) = z := ⟨_, rfl⟩
                rw [hz, unq_two k s acc (i + 1 + 1) _ _ _ z (by omega) hs (by omega) (by omega) (btn s (i + 1 + 1) (by omega)) (btn s (i + 1 + 1 + 1) (by omega)) hz, ih (i + 1 + 1 + 2) k _ (by omega) (by omega) (by omega) (by rw [List.length_append, List.length_singleton]; omega), List.append_assoc]
                exact congrArg (fun z => some (unqFin s (acc ++ z))) (List.singleton_append)
              · rw [decide_eq_false (show ¬ (((i + 1 + 1 + 1 : Nat) : Int)) < ((s.size - 1 : Nat) : Int) by omega)]
                simp only [errataref02_Unquote.j2]
                have hl : ((s.data.toList.take (s.size - 1)).drop (i + 1 + 1)).length < 2 := by rw [List.length_drop, hMl]; omega
                have em := rqX_short (rqF j) _ hl
                rw [if_neg (by decide), nm_len, if_pos (by omega), em, ex, show nm acc ++ [120] = nm (acc ++ [120]) from (nm_app acc [120]).symm, ih (i + 1 + 1) k (acc ++ [120]) (by omega) (by omega) (by omega) (by rw [List.length_append, List.length_singleton]; omega), List.append_assoc]
                rfl
            · have hx' : ¬ ((s[i + 1].toNat : Nat) : Int) = 120 := fun e => hx (u8_eq (n := 120) (by omega) (by decide))
              rw [if_neg hx', if_neg hx]
              simp only [errataref02_Unquote.j2]
              rw [if_neg (by decide), nm_len, if_pos (by omega), nm_snoc, ih (i + 1 + 1) k _ (by omega) (by omega) (by omega) (by rw [List.length_append, List.length_singleton]; omega), List.append_assoc]
              rfl
        · rw [decide_eq_false (show ¬ (((i + 1 : Nat) : Int)) < ((s.size - 1 : Nat) : Int) by omega)]
          have hl : (s.data.toList.take (s.size - 1)).drop (i + 1) = [] := List.drop_of_length_le (by rw [hMl]; omega)
          simp only [errataref02_Unquote.j1]
          rw [if_neg (by decide), nm_len, if_pos (by omega), nm_snoc, ih (i + 1) (k + 1) _ (by omega) (by omega) (by omega) (by rw [List.length_append, List.length_singleton]; omega), hl, h92]
          have e1 : rqF (j + 1) [(92 : UInt8)] = [92] := rfl
          have e2 : rqF j [] = [] := by cases j <;> rfl
          rw [e1, e2, List.append_nil]
      · have e92 : ¬ (s[i].toNat : Int) = 92 := fun e => h92 (u8_eq (n := 92) (by omega) (by decide))
        rw [if_neg e92]
        simp only [errataref02_Unquote.j1]
        have e : ∀ r, rqF (j + 1) (s[i] :: r) = s[i] :: rqF j r := fun r => if_neg h92
        rw [if_neg (by decide), nm_len, if_pos (by omega), e, nm_snoc, ih (i + 1) (k + 1) _ (by omega) (by omega) (by omega) (by rw [List.length_append, List.length_singleton]; omega), List.append_assoc]
        rfl
    · have e1 : (s.data.toList.take (s.size - 1)).drop i = [] := List.drop_of_length_le (by rw [hMl]; omega)
      have := ih i k acc (by omega) (by omega) hi ha
      have e2 : ∀ q, rqF q [] = [] := by intro q; cases q <;> rfl
      rw [e1, e2] at this ⊢
      exact this
theorem unq_same (s : ByteArray) (j : Nat) (hj : s.size ≤ j) : unqFin s (rqF j (mid s)) = unqR s := by
  have key : ∀ X : List UInt8, quo X = s.data.toList → mid s = X.flatMap quoB ∧ X.length ≤ s.size := fun X hX => by
    have h1 := mid_quo X
    have hl := congrArg List.length hX
    rw [sz_toList] at hl
    constructor
    · rw [← h1, hX, sz_toList]
      rfl
    · have : X.length ≤ (X.flatMap quoB).length := by
        have pos : ∀ c, 1 ≤ (quoB c).length := fun c => by
          unfold quoB
          repeat' split
          all_goals simp
        clear h1 hl hX
        induction X with
        | nil => exact Nat.le_refl _
        | cons c X ih =>
          have := pos c
          rw [List.flatMap_cons, List.length_append, List.length_cons]
          omega
      have e : (quo X).length = (X.flatMap quoB).length + 2 := by unfold quo; rw [List.length_append, List.length_cons, List.length_singleton]
      omega
  unfold unqFin unqR
  by_cases h1 : quo (rqF j (mid s)) = s.data.toList
  · obtain ⟨k1, _⟩ := key _ h1
    have h2 : unq (mid s) = rqF j (mid s) := by
      conv => lhs; rw [k1]
      exact unq_flat _
    rw [if_pos h1, h2, if_pos h1]
    rfl
  · rw [if_neg h1]
    by_cases h2 : quo (unq (mid s)) = s.data.toList
    · exfalso
      obtain ⟨k1, k2⟩ := key _ h2
      have h3 : rqF j (mid s) = unq (mid s) := by
        conv => lhs; rw [k1]
        exact rq_flat _ j (by omega)
      exact h1 (by rw [h3]; exact h2)
    · rw [if_neg h2]
theorem refUnq (s : ByteArray) (hs : s.size ≤ 100000) (k : Nat) (hk : 5 * s.size + 50 ≤ k) : errataref02_Unquote.f k s = some (unqR s) := by
  unfold errataref02_Unquote.f
  have hm : mid s = (s.data.toList.take (s.size - 1)).drop 1 := by
    unfold mid
    rw [List.drop_take, show s.size - 1 - 1 = s.size - 2 by omega]
  by_cases h0 : s.size = 0
  · obtain ⟨k, rfl⟩ : ∃ m, k = m + 1 := ⟨k - 1, by omega⟩
    have e := refUnq_end s [] (by show 0 ≤ _; omega) k (by show 1 ≤ k; omega)
    simp only [errataref02_Unquote.l0]
    rw [h0, if_neg (by rw [wr (by omega) (by omega)]; omega)]
    have e2 : mid s = [] := by rw [hm]; exact List.drop_of_length_le (by rw [List.length_take, sz_toList]; omega)
    have e3 := unq_same s (s.size) (Nat.le_refl _)
    have e4 : rqF s.size (mid s) = [] := by rw [e2]; cases s.size <;> rfl
    rw [e4] at e3
    rw [← e3]
    exact e
  · rw [← unq_same s (s.size) (Nat.le_refl _), hm]
    exact refUnq_l0 s (by omega) hs s.size 1 k [] (by omega) (by omega) (by omega) (Nat.zero_le _)
end Go.Proofs.YtfefbnfmngdicaaDoor.PX

/- What the reference's Lines, Unlines, Fields, Escape and In compute, plainly. -/
namespace Go.Proofs.YtfefbnfmngdicaaDoor.PX
set_option linter.unusedVariables false
set_option linter.unusedSimpArgs false
open Go.RowKit Go.Proofs.YtfefbnfmngdicaaDoorW.PrintWords

theorem app_list (a b : ByteArray) : (a ++ b).data.toList = a.data.toList ++ b.data.toList := app_listV a b
theorem rd_at (l : List ByteArray) (i : Nat) (h : i < l.length) : rdOf ByteArray.empty l (i : Int) = l[i] := by
  unfold rdOf
  rw [Int.toNat_natCast, List.getD_eq_getElem?_getD, List.getElem?_eq_getElem h, Option.getD_some]
theorem w64n (i : Nat) (h : i < 1000000000) : wrap64 ((i : Int) + 1) = ((i + 1 : Nat) : Int) := by
  rw [w64 (by omega) (by omega)]
  omega
theorem tl2 (s : ByteArray) : s.toList = s.data.toList := Lib.toList_data s
theorem same_self (l : List ByteArray) (hl : l.length ≤ 1000000) : ∀ (d i k : Nat), l.length - i ≤ d → d + 1 ≤ k → i ≤ l.length → errataref02_Same.l0 k l l (i : Int) = some true := by
  intro d
  induction d with
  | zero =>
    intro i k hd hk hi
    obtain ⟨k, rfl⟩ : ∃ m, k = m + 1 := ⟨k - 1, by omega⟩
    simp only [errataref02_Same.l0]
    rw [if_neg (by omega)]
  | succ d ih =>
    intro i k hd hk hi
    obtain ⟨k, rfl⟩ : ∃ m, k = m + 1 := ⟨k - 1, by omega⟩
    simp only [errataref02_Same.l0]
    by_cases h : i < l.length
    · rw [if_pos (by omega), if_pos (by omega), if_pos (by omega), if_pos trivial, w64n i (by omega)]
      exact ih (i + 1) k (by omega) (by omega) (by omega)
    · rw [if_neg (by omega)]
theorem same_refl (l : List ByteArray) (hl : l.length ≤ 1000000) (k : Nat) (hk : l.length + 1 ≤ k) : errataref02_Same.f k l l = some true := by
  unfold errataref02_Same.f
  rw [if_pos rfl]
  exact same_self l hl l.length 0 k (by omega) hk (by omega)


/-! ### Lines -/
theorem lns_cut (a b : List UInt8) (h : ∀ c ∈ a, c ≠ 10) : lns (a ++ 10 :: b) = a :: lns b := by
  have hne : a ++ 10 :: b ≠ [] := by cases a <;> simp
  unfold lns
  rw [if_neg hne]
  by_cases hb : b = []
  · subst hb
    rw [if_pos rfl, show a ++ [10] = a ++ [10] from rfl, trm_snoc, spl_one a h]
  · rw [if_neg hb]
    by_cases hl : b.getLast? = some 10
    · obtain ⟨t, rfl⟩ := last_split b hl
      rw [show a ++ 10 :: (t ++ [10]) = (a ++ 10 :: t) ++ [10] by simp, trm_snoc, trm_snoc, spl_app a t h]
    · rw [trm_other b hl, trm_other (a ++ 10 :: b) (by
        rw [List.getLast?_append]
        cases b with
        | nil => exact absurd rfl hb
        | cons x r =>
          rw [List.getLast?_cons_cons]
          intro e
          apply hl
          revert e
          cases hx : (x :: r).getLast? with
          | none => simp at hx
          | some y => simp), spl_app a b h]
theorem lns_one (a : List UInt8) (h : ∀ c ∈ a, c ≠ 10) (hne : a ≠ []) : lns a = [a] := by
  unfold lns
  rw [if_neg hne, trm_other a (fun e => h 10 (List.mem_of_getLast? e) rfl), spl_one a h]
theorem ext_mkL (s : ByteArray) (a b : Nat) : s.extract a b = mk ((s.data.toList.drop a).take (b - a)) := ext_mk s a b
theorem take_dropC (s : ByteArray) (a i : Nat) (h : i < s.size) (ha : a ≤ i) : (s.data.toList.drop a).take (i + 1 - a) = (s.data.toList.drop a).take (i - a) ++ [s[i]] := by
  rw [show i + 1 - a = (i - a) + 1 by omega, List.take_add_one]
  congr 1
  rw [List.getElem?_drop, show a + (i - a) = i by omega, List.getElem?_eq_getElem (by rw [sz_toList]; exact h)]
  rfl
theorem rlines_l0 (s : ByteArray) (hs : s.size ≤ 1000) : ∀ (j i a k : Nat) (acc : List ByteArray), s.size - i ≤ j → j + 1 ≤ k → a ≤ i → i ≤ s.size → acc.length ≤ i →
    (∀ c ∈ (s.data.toList.drop a).take (i - a), c ≠ 10) → errataref02_Lines.l0 k s acc (a : Int) (i : Int) = some (acc ++ (lns (s.data.toList.drop a)).map mk) := by
  intro j
  induction j with
  | zero =>
    intro i a k acc hj hk hai his hl hno
    obtain ⟨k, rfl⟩ : ∃ m, k = m + 1 := ⟨k - 1, by omega⟩
    have hie : i = s.size := by omega
    have hall : (s.data.toList.drop a).take (i - a) = s.data.toList.drop a := List.take_of_length_le (by rw [List.length_drop, sz_toList]; omega)
    rw [hall] at hno
    simp only [errataref02_Lines.l0]
    rw [if_neg (by omega)]
    by_cases ha : a < s.size
    · rw [if_pos (by omega), if_pos (by omega), if_pos (by omega), if_pos (by omega), lns_one _ hno (by
        intro e; have := congrArg List.length e; rw [List.length_drop, sz_toList] at this; simp at this; omega)]
      rw [ext_mkL, Int.toNat_natCast, List.take_of_length_le (by rw [List.length_drop, sz_toList]; omega)]
      rfl
    · rw [if_neg (by omega), List.drop_of_length_le (by rw [sz_toList]; omega)]
      rw [show (lns []).map mk = [] from rfl, List.append_nil]
  | succ j ih =>
    intro i a k acc hj hk hai his hl hno
    by_cases hi : i < s.size
    · obtain ⟨k, rfl⟩ : ∃ m, k = m + 1 := ⟨k - 1, by omega⟩
      simp only [errataref02_Lines.l0]
      rw [if_pos (by omega), if_pos (by omega), btn s i hi, wrn i (by omega)]
      by_cases h10 : s[i] = 10
      · rw [if_pos (show (s[i].toNat : Int) = 10 by rw [h10]; rfl), if_pos (by omega), if_pos (by omega), if_pos (by omega), if_pos (by omega)]
        rw [ih (i + 1) (i + 1) k _ (by omega) (by omega) (by omega) (by omega) (by rw [List.length_append, List.length_singleton]; omega) (by rw [Nat.sub_self, List.take_zero]; intro c hc; cases hc)]
        have hcut : s.data.toList.drop a = (s.data.toList.drop a).take (i - a) ++ 10 :: s.data.toList.drop (i + 1) := by
          conv => lhs; rw [← List.take_append_drop (i - a) (s.data.toList.drop a)]
          rw [List.drop_drop, show a + (i - a) = i by omega, dropC s i hi, h10]
        rw [ext_mkL, Int.toNat_natCast, Int.toNat_natCast]
        conv => rhs; rw [hcut, lns_cut _ _ hno]
        rw [List.map_cons, List.append_assoc]
        rfl
      · rw [if_neg (show ¬ (s[i].toNat : Int) = 10 from fun e => h10 (u8_eq (n := 10) (by omega) (by decide)))]
        rw [ih (i + 1) a k acc (by omega) (by omega) (by omega) (by omega) (by omega) (by
          rw [take_dropC s a i hi hai]
          intro c hc
          rcases List.mem_append.1 hc with hc | hc
          · exact hno c hc
          · rw [List.mem_singleton.1 hc]; exact h10)]
    · exact ih i a k acc (by omega) (by omega) hai his hl hno
theorem refLines (s : ByteArray) (hs : s.size ≤ 1000) (k : Nat) (hk : s.size + 1 ≤ k) : errataref02_Lines.f k s = some ((lns s.data.toList).map mk) := by
  have := rlines_l0 s hs s.size 0 0 k [] (by omega) (by omega) (Nat.le_refl _) (Nat.zero_le _) (Nat.zero_le _) (by intro c hc; cases hc)
  exact this

/-! ### Unlines -/
theorem refUnl_l0 (l : List ByteArray) (hl : l.length ≤ 1000) (hs : ∀ x ∈ l, x.size ≤ 1000) : ∀ (j i k : Nat) (acc : ByteArray), l.length - i ≤ j → j + 1 ≤ k → acc.size ≤ 1001 * i → i ≤ l.length →
    errataref02_Unlines.l0 k l acc (i : Int) = some (acc ++ mk (unl (l.drop i))) := by
  intro j
  induction j with
  | zero =>
    intro i k acc hj hk ha hi
    obtain ⟨k, rfl⟩ : ∃ m, k = m + 1 := ⟨k - 1, by omega⟩
    simp only [errataref02_Unlines.l0]
    rw [if_neg (by omega), List.drop_of_length_le (by omega)]
    rw [show mk (unl []) = ByteArray.empty from rfl, ByteArray.append_empty]
  | succ j ih =>
    intro i k acc hj hk ha hil
    by_cases hi : i < l.length
    · obtain ⟨k, rfl⟩ : ∃ m, k = m + 1 := ⟨k - 1, by omega⟩
      have hx := hs l[i] (List.getElem_mem _)
      have h1 : (strOfNums [10]).size = 1 := by decide
      simp only [errataref02_Unlines.l0]
      rw [if_pos (by omega), if_pos (by omega), rd_at l i hi, if_pos (by omega), Option.bind_some, if_pos (by rw [ByteArray.size_append, h1]; omega), wrn i (by omega)]
      rw [ih (i + 1) k _ (by omega) (by omega) (by rw [ByteArray.size_append, ByteArray.size_append, h1]; omega) (by omega)]
      rw [List.drop_eq_getElem_cons hi]
      congr 1
      apply ba_ext
      rw [app_list, app_list, app_list, app_list]
      show _ = acc.data.toList ++ unl (l[i] :: l.drop (i + 1))
      rw [show unl (l[i] :: l.drop (i + 1)) = (l[i].data.toList ++ [10]) ++ unl (l.drop (i + 1)) from List.flatMap_cons]
      rw [show (strOfNums [10]).data.toList = [10] from by decide]
      simp only [List.append_assoc]
      rfl
    · exact ih i k acc (by omega) (by omega) ha hil
theorem refUnl (l : List ByteArray) (hl : l.length ≤ 1000) (hs : ∀ x ∈ l, x.size ≤ 1000) (k : Nat) (hk : l.length + 1 ≤ k) : errataref02_Unlines.f k l = some (mk (unl l)) := by
  have := refUnl_l0 l hl hs l.length 0 k ⟨#[]⟩ (by omega) (by omega) (Nat.zero_le _) (Nat.zero_le _)
  refine this.trans ?_
  rw [show (⟨#[]⟩ : ByteArray) = ByteArray.empty from rfl, ByteArray.empty_append]
  rfl

/-! ### Escape -/
theorem refEsc_l0 (s : ByteArray) (hs : s.size ≤ 1000000) : ∀ (j i k : Nat) (acc : List UInt8), s.size - i ≤ j → j + 1 ≤ k → i ≤ s.size → acc.length ≤ 2 * i →
    errataref02_Escape.l0 k s (nm acc) (i : Int) = some (bs (acc ++ esc (s.data.toList.drop i))) := by
  intro j
  induction j with
  | zero =>
    intro i k acc hj hk hi ha
    obtain ⟨k, rfl⟩ : ∃ m, k = m + 1 := ⟨k - 1, by omega⟩
    simp only [errataref02_Escape.l0]
    rw [if_neg (by omega), List.drop_of_length_le (by rw [sz_toList]; omega), str_nm, show esc [] = [] from rfl, List.append_nil]
  | succ j ih =>
    intro i k acc hj hk hil ha
    by_cases hi : i < s.size
    · obtain ⟨k, rfl⟩ : ∃ m, k = m + 1 := ⟨k - 1, by omega⟩
      have two : ∀ c : UInt8, c = 42 ∨ c = 63 ∨ c = 91 ∨ c = 92 → s[i] = c → (if (nm acc).length < 140737488355328 then ((some (nm acc ++ [92] : List Int)).bind fun y218 => (if y218.length < 140737488355328 then (errataref02_Escape.l0 k s (y218 ++ [(s[i].toNat : Int)]) ((i + 1 : Nat) : Int)) else (none))) else (none)) = some (bs (acc ++ esc (s.data.toList.drop i))) := by
        intro c hc he
        rw [if_pos (by rw [nm_len]; omega), Option.bind_some, if_pos (by rw [List.length_append, nm_len, List.length_singleton]; omega)]
        rw [show nm acc ++ [92] ++ [(s[i].toNat : Int)] = nm (acc ++ [92, s[i]]) by rw [nm_app, List.append_assoc]; rfl]
        rw [ih (i + 1) k _ (by omega) (by omega) (by omega) (by rw [List.length_append]; simp only [List.length_cons, List.length_nil]; omega)]
        rw [dropC s i hi, esc_cons, escB_two s[i] (he ▸ hc), ← List.append_assoc]
      simp only [errataref02_Escape.l0]
      rw [if_pos (by omega), if_pos (by omega), btn s i hi, wrn i (by omega)]
      by_cases h42 : s[i] = 42
      · rw [if_pos (show (s[i].toNat : Int) = 42 by rw [h42]; rfl)]; exact two 42 (by decide) h42
      · rw [if_neg (show ¬ (s[i].toNat : Int) = 42 from fun e => h42 (u8_eq (n := 42) (by omega) (by decide)))]
        by_cases h63 : s[i] = 63
        · rw [if_pos (show (s[i].toNat : Int) = 63 by rw [h63]; rfl)]; exact two 63 (by decide) h63
        · rw [if_neg (show ¬ (s[i].toNat : Int) = 63 from fun e => h63 (u8_eq (n := 63) (by omega) (by decide)))]
          by_cases h91 : s[i] = 91
          · rw [if_pos (show (s[i].toNat : Int) = 91 by rw [h91]; rfl)]; exact two 91 (by decide) h91
          · rw [if_neg (show ¬ (s[i].toNat : Int) = 91 from fun e => h91 (u8_eq (n := 91) (by omega) (by decide)))]
            by_cases h92 : s[i] = 92
            · rw [if_pos (show (s[i].toNat : Int) = 92 by rw [h92]; rfl)]; exact two 92 (by decide) h92
            · rw [if_neg (show ¬ (s[i].toNat : Int) = 92 from fun e => h92 (u8_eq (n := 92) (by omega) (by decide)))]
              rw [if_pos (by rw [nm_len]; omega), nm_snoc, ih (i + 1) k _ (by omega) (by omega) (by omega) (by rw [List.length_append, List.length_singleton]; omega)]
              rw [dropC s i hi, esc_cons, escB_one s[i] (by rintro (h | h | h | h) <;> contradiction), ← List.append_assoc]
    · exact ih i k acc (by omega) (by omega) hil ha
theorem refEsc (s : ByteArray) (hs : s.size ≤ 1000000) (k : Nat) (hk : s.size + 1 ≤ k) : errataref02_Escape.f k s = some (mk (esc s.data.toList)) :=
  refEsc_l0 s hs s.size 0 k [] (by omega) (by omega) (Nat.zero_le _) (Nat.zero_le _)

/-! ### Fields -/
def opt (c : List UInt8) : Option (List UInt8) := if c = [] then none else some c
theorem mk_empty (c : List UInt8) : (mk c).toList = ([] : List UInt8) ↔ c = [] := by rw [tl2, mk_list]
theorem refFld_l0 (s : ByteArray) (hs : s.size ≤ 1000) : ∀ (j i k : Nat) (acc : List ByteArray) (c : List UInt8), s.size - i ≤ j → 2 * j + 1 ≤ k → i ≤ s.size → acc.length ≤ i → c.length ≤ i →
    errataref02_Fields.l0 k s acc (mk c) (i : Int) = some (acc ++ (flG (opt c) (s.data.toList.drop i)).map mk) := by
  intro j
  induction j with
  | zero =>
    intro i k acc c hj hk hi ha hc
    obtain ⟨k, rfl⟩ : ∃ m, k = m + 1 := ⟨k - 1, by omega⟩
    simp only [errataref02_Fields.l0]
    rw [if_neg (by omega), List.drop_of_length_le (by rw [sz_toList]; omega)]
    by_cases he : c = []
    · rw [if_pos ((mk_empty c).2 he), show opt c = none from if_pos he]
      show _ = some (acc ++ [])
      rw [List.append_nil]
    · rw [if_neg (fun e => he ((mk_empty c).1 e)), show opt c = some c from if_neg he, if_pos (by omega)]
      rfl
  | succ j ih =>
    intro i k acc c hj hk hil ha hc
    by_cases hi : i < s.size
    · obtain ⟨k, rfl⟩ : ∃ m, k = m + 1 := ⟨k - 1, by omega⟩
      obtain ⟨k, rfl⟩ : ∃ m, k = m + 1 := ⟨k - 1, by omega⟩
      have white : whB s[i] = true → errataref02_Fields.j1 (k + 1) s acc (mk c) (i : Int) false = some (acc ++ (flG (opt c) (s.data.toList.drop i)).map mk) := by
        intro hw
        simp only [errataref02_Fields.j1]
        rw [if_neg (by decide), wrn i (by omega), dropC s i hi, flG_white _ _ _ hw]
        by_cases he : c = []
        · rw [if_pos ((mk_empty c).2 he), show opt c = none from if_pos he]
          have := ih (i + 1) k acc [] (by omega) (by omega) (by omega) (by omega) (by simp)
          exact this
        · rw [if_neg (fun e => he ((mk_empty c).1 e)), show opt c = some c from if_neg he, if_pos (by omega)]
          have := ih (i + 1) k (acc ++ [mk c]) [] (by omega) (by omega) (by omega) (by rw [List.length_append, List.length_singleton]; omega) (by simp)
          refine Eq.trans this ?_
          rw [List.append_assoc]
          rfl
      have other : whB s[i] = false → errataref02_Fields.j1 (k + 1) s acc (mk c) (i : Int) true = some (acc ++ (flG (opt c) (s.data.toList.drop i)).map mk) := by
        intro hw
        have hx : s.extract i (i + 1) = mk [s[i]] := by
          rw [ext_mkL, show i + 1 - i = 1 by omega, dropC s i hi]; rfl
        have hap : mk c ++ mk [s[i]] = mk (c ++ [s[i]]) := ba_ext (by rw [app_list]; rfl)
        simp only [errataref02_Fields.j1]
        rw [if_pos trivial, if_pos (by omega), wrn i (by omega), if_pos (by omega), if_pos (by omega), Int.toNat_natCast, Int.toNat_natCast, hx, if_pos (by rw [mk_len, mk_len, List.length_singleton]; omega), hap]
        rw [ih (i + 1) k acc (c ++ [s[i]]) (by omega) (by omega) (by omega) (by omega) (by rw [List.length_append, List.length_singleton]; omega)]
        rw [dropC s i hi, flG_other _ _ _ hw, show opt (c ++ [s[i]]) = some (c ++ [s[i]]) from if_neg (by simp)]
        congr 5
        unfold opt
        split
        · rename_i h; rw [h]; rfl
        · rfl
      simp only [errataref02_Fields.l0]
      rw [if_pos (by omega), if_pos (by omega), btn s i hi]
      by_cases h32 : s[i] = 32
      · rw [if_pos (show (s[i].toNat : Int) = 32 by rw [h32]; rfl)]; exact white (by rw [h32]; rfl)
      · rw [if_neg (show ¬ (s[i].toNat : Int) = 32 from fun e => h32 (u8_eq (n := 32) (by omega) (by decide)))]
        by_cases h9 : s[i] = 9
        · rw [if_pos (show (s[i].toNat : Int) = 9 by rw [h9]; rfl)]; exact white (by rw [h9]; rfl)
        · rw [if_neg (show ¬ (s[i].toNat : Int) = 9 from fun e => h9 (u8_eq (n := 9) (by omega) (by decide)))]
          by_cases h10 : s[i] = 10
          · rw [show ((s[i].toNat : Int) != 10) = false by rw [h10]; rfl]; exact white (by rw [h10]; rfl)
          · rw [show ((s[i].toNat : Int) != 10) = true from bne_iff_ne.2 (fun e => h10 (u8_eq (n := 10) (by omega) (by decide)))]
            exact other (by unfold whB; rw [beq_eq_false_iff_ne.2 h32, beq_eq_false_iff_ne.2 h9, beq_eq_false_iff_ne.2 h10]; rfl)
    · exact ih i k acc c (by omega) (by omega) hil ha hc
theorem refFld (s : ByteArray) (hs : s.size ≤ 1000) (k : Nat) (hk : 2 * s.size + 1 ≤ k) : errataref02_Fields.f k s = some ((fld s.data.toList).map mk) :=
  refFld_l0 s hs s.size 0 k [] [] (by omega) (by omega) (Nat.zero_le _) (Nat.zero_le _) (Nat.zero_le _)
end Go.Proofs.YtfefbnfmngdicaaDoor.PX

/- The reference's pattern functions answer as the plain ones. -/
namespace Go.Proofs.YtfefbnfmngdicaaDoor.PX
set_option linter.unusedVariables false
set_option linter.unusedSimpArgs false
open Go.RowKit Go.Proofs.YtfefbnfmngdicaaDoorW.PrintWords

/-- What a part fits. -/
def fitB (x : S84) (c : UInt8) : Bool := if x.f0 = 2 then true else if x.f0 = 3 then inSet x.f2.data.toList c != x.f3 else x.f1 == (c.toNat : Int)
def ptOf (x : S84) : Pt := if x.f0 = 1 then none else some (fitB x)
theorem u8i (a b : UInt8) : ((a.toNat : Int) == (b.toNat : Int)) = (b == a) := by
  rw [Bool.eq_iff_iff, beq_iff_eq, beq_iff_eq]
  constructor
  · intro h; exact UInt8.toNat_inj.1 (by omega)
  · rintro rfl; rfl
theorem fit_byte (a : UInt8) (s t : ByteArray) (n : Bool) : fitB ⟨0, (a.toNat : Int), s, n, t⟩ = fun x => x == a := by
  funext x
  unfold fitB
  rw [if_neg (show ¬ (0 : Int) = 2 by decide), if_neg (show ¬ (0 : Int) = 3 by decide)]
  exact u8i a x
theorem byt_sz (l : List UInt8) : (byt l).size = l.length := byt_size l
theorem part_rpt (l : List UInt8) (hne : l ≠ []) : (part1 l).1 = ptOf (rpt l) ∧ (part1 l).2 = (rpt l).f4.size := by
  cases l with
  | nil => exact absurd rfl hne
  | cons c r =>
    rw [rpt_eq]
    by_cases h92 : c = 92
    · subst h92
      cases r with
      | nil =>
        rw [if_neg (fun h => h.2 rfl), if_neg (by decide), if_neg (by decide), if_neg (by decide)]
        exact ⟨by rw [ptOf, if_neg (show ¬ (0 : Int) = 1 by decide), fit_byte]; rfl, by rw [byt_sz]; rfl⟩
      | cons d r =>
        rw [if_pos ⟨rfl, by simp⟩]
        exact ⟨by rw [ptOf, if_neg (show ¬ (0 : Int) = 1 by decide), fit_byte]; rfl, by rw [byt_sz]; rfl⟩
    · rw [if_neg (fun h => h92 h.1)]
      by_cases h42 : c = 42
      · subst h42
        rw [if_pos rfl]
        exact ⟨rfl, by rw [byt_sz]; rfl⟩
      · rw [if_neg h42]
        by_cases h63 : c = 63
        · subst h63
          rw [if_pos rfl]
          refine ⟨?_, by rw [byt_sz]; rfl⟩
          rw [ptOf, if_neg (by decide)]
          rfl
        · rw [if_neg h63]
          by_cases h91 : c = 91
          · subst h91
            rw [if_pos rfl]
            cases hc : cls r with
            | none =>
              rw [part1_none r hc]
              exact ⟨by rw [ptOf, if_neg (show ¬ (0 : Int) = 1 by decide), fit_byte], by rw [byt_sz]; rfl⟩
            | some q =>
              obtain ⟨n, neg, set⟩ := q
              rw [part1_some r n neg set hc]
              have := cls_lt r n neg set hc
              refine ⟨?_, ?_⟩
              · show _ = ptOf ⟨3, 0, byt set, neg, byt ((91 :: r).take (n + 2))⟩
                rw [ptOf, if_neg (show ¬ (3 : Int) = 1 by decide)]
                rfl
              · show n + 2 = (byt ((91 :: r).take (n + 2))).size
                rw [byt_sz, List.length_take, List.length_cons]
                omega
          · rw [if_neg h91, part1_byte c r h92 h42 h63 h91]
            exact ⟨by rw [ptOf, if_neg (show ¬ (0 : Int) = 1 by decide), fit_byte], by rw [byt_sz]; rfl⟩
theorem pts_rpts : ∀ (n : Nat) (l : List UInt8), l.length ≤ n → pts l = (rpts l).map ptOf
  | 0, [], _ => rfl
  | 0, c :: r, h => absurd h (Nat.not_succ_le_zero _)
  | _ + 1, [], _ => rfl
  | n + 1, c :: r, h => by
    have hp := part_rpt (c :: r) (by simp)
    have h1 := part1_pos (c :: r)
    rw [pts_cons _ (by simp), rpts_cons, List.map_cons, hp.1, hp.2, pts_rpts n _ (by rw [List.length_drop, ← hp.2]; rw [List.length_cons] at *; omega)]
theorem mg_rpt (c : UInt8) (r : List UInt8) : mg1 (c :: r) = decide (¬ (rpt (c :: r)).f0 = 0) := by
  rw [rpt_eq]
  show (c == 42 || c == 63 || (c == 91 && (cls r).isSome)) = _
  by_cases h92 : c = 92
  · subst h92
    by_cases hr : r = []
    · subst hr; rfl
    · rw [if_pos ⟨rfl, hr⟩]; rfl
  · rw [if_neg (fun h => h92 h.1)]
    by_cases h42 : c = 42
    · subst h42; rfl
    · rw [if_neg h42, beq_eq_false_iff_ne.2 h42]
      by_cases h63 : c = 63
      · subst h63; rfl
      · rw [if_neg h63, beq_eq_false_iff_ne.2 h63]
        by_cases h91 : c = 91
        · subst h91
          rw [if_pos rfl]
          cases hc : cls r with
          | none => rfl
          | some q => rfl
        · rw [if_neg h91, beq_eq_false_iff_ne.2 h91]
          rfl
theorem mg_rpts : ∀ (n : Nat) (l : List UInt8), l.length ≤ n → mg l = (rpts l).any fun x => decide (¬ x.f0 = 0)
  | 0, [], _ => rfl
  | 0, c :: r, h => absurd h (Nat.not_succ_le_zero _)
  | _ + 1, [], _ => rfl
  | n + 1, c :: r, h => by
    have hp := part_rpt (c :: r) (by simp)
    have h1 := part1_pos (c :: r)
    rw [mg_cons _ (by simp), rpts_cons, List.any_cons, mg_rpt, hp.2, mg_rpts n _ (by rw [List.length_drop, ← hp.2]; rw [List.length_cons] at *; omega)]
/-- What Plain writes of a part. -/
def plB (x : S84) : List UInt8 := if x.f0 = 0 ∧ x.f4.size = 2 then x.f4.data.toList.drop 1 else x.f4.data.toList
theorem partT_rpt (c : UInt8) (r : List UInt8) : partT (c :: r) = plB (rpt (c :: r)) := by
  have hp := part_rpt (c :: r) (by simp)
  unfold partT
  rw [hp.2, rpt_eq]
  by_cases h92 : c = 92
  · subst h92
    cases r with
    | nil => rfl
    | cons d r => rfl
  · rw [if_neg (show ¬ ((c :: r).head? = some 92 ∧ 2 ≤ (c :: r).length) from fun h => h92 (Option.some.inj h.1)), if_neg (fun h => h92 h.1)]
    by_cases h42 : c = 42
    · subst h42; rfl
    · rw [if_neg h42]
      by_cases h63 : c = 63
      · subst h63; rfl
      · rw [if_neg h63]
        by_cases h91 : c = 91
        · subst h91
          rw [if_pos rfl]
          cases hc : cls r with
          | none => rfl
          | some q =>
            obtain ⟨n, neg, set⟩ := q
            have := cls_lt r n neg set hc
            show (91 :: r).take (byt ((91 :: r).take (n + 2))).size = plB ⟨3, 0, byt set, neg, byt ((91 :: r).take (n + 2))⟩
            rw [byt_sz, List.length_take, List.length_cons, Nat.min_eq_left (by omega), plB, if_neg (fun h => absurd (show (3 : Int) = 0 from h.1) (by decide))]
            rfl
        · rw [if_neg h91]; rfl
theorem pln_rpts : ∀ (n : Nat) (l : List UInt8), l.length ≤ n → pln l = (rpts l).flatMap plB
  | 0, [], _ => rfl
  | 0, c :: r, h => absurd h (Nat.not_succ_le_zero _)
  | _ + 1, [], _ => rfl
  | n + 1, c :: r, h => by
    have hp := part_rpt (c :: r) (by simp)
    have h1 := part1_pos (c :: r)
    rw [pln_cons _ (by simp), rpts_cons, List.flatMap_cons, partT_rpt, hp.2, pln_rpts n _ (by rw [List.length_drop, ← hp.2]; rw [List.length_cons] at *; omega)]
theorem rpts_len : ∀ (n : Nat) (l : List UInt8), l.length ≤ n → (rpts l).length ≤ l.length ∧ (∀ x ∈ rpts l, x.f4.size ≤ l.length) ∧ ((rpts l).flatMap plB).length ≤ l.length
  | 0, [], _ => ⟨Nat.le_refl _, (fun x hx => by cases hx), Nat.le_refl _⟩
  | 0, c :: r, h => absurd h (Nat.not_succ_le_zero _)
  | _ + 1, [], _ => ⟨Nat.le_refl _, (fun x hx => by cases hx), Nat.le_refl _⟩
  | n + 1, c :: r, h => by
    have hp := rpt_pos c r
    have ih := rpts_len n ((c :: r).drop (rpt (c :: r)).f4.size) (by rw [List.length_drop]; omega)
    rw [List.length_drop] at ih
    have hpl : (plB (rpt (c :: r))).length ≤ (rpt (c :: r)).f4.size := by
      unfold plB; split
      · rw [List.length_drop, sz_toList]; omega
      · rw [sz_toList]; exact Nat.le_refl _
    rw [rpts_cons]
    refine ⟨by rw [List.length_cons]; omega, ?_, by rw [List.flatMap_cons, List.length_append]; omega⟩
    intro x hx
    rcases List.mem_cons.1 hx with rfl | hx
    · exact hp.2
    · have := ih.2.1 x hx; omega
theorem rd84 (l : List S84) (i : Nat) (h : i < l.length) : rd_T84 l (i : Int) = l[i] := by
  unfold rd_T84
  rw [Int.toNat_natCast, List.getD_eq_getElem?_getD, List.getElem?_eq_getElem h]
  rfl
/-! ### Magic, Plain -/
theorem refMg_l0 (l : List S84) (hl : l.length ≤ 1000000) : ∀ (j i k : Nat), l.length - i ≤ j → j + 1 ≤ k → i ≤ l.length → errataref02_Magic.l0 k l (i : Int) = some ((l.drop i).any fun x => decide (¬ x.f0 = 0)) := by
  intro j
  induction j with
  | zero =>
    intro i k hj hk hi
    obtain ⟨k, rfl⟩ : ∃ m, k = m + 1 := ⟨k - 1, by omega⟩
    simp only [errataref02_Magic.l0]
    rw [if_neg (by omega), List.drop_of_length_le (by omega)]; rfl
  | succ j ih =>
    intro i k hj hk hil
    by_cases hi : i < l.length
    · obtain ⟨k, rfl⟩ : ∃ m, k = m + 1 := ⟨k - 1, by omega⟩
      simp only [errataref02_Magic.l0]
      rw [if_pos (by omega), if_pos (by omega), rd84 l i hi, List.drop_eq_getElem_cons hi, List.any_cons, wrn i (by omega), ih (i + 1) k (by omega) (by omega) (by omega)]
      by_cases h0 : l[i].f0 = 0
      · rw [if_pos h0, decide_eq_false (fun h => h h0), Bool.false_or]
      · rw [if_neg h0, decide_eq_true h0]; rfl
    · exact ih i k (by omega) (by omega) hil
theorem refMagic (p : ByteArray) (hp : p.size ≤ 1000) (k : Nat) (hk : p.size + 1 ≤ k) : errataref02_Magic.f k p = some (mg p.data.toList) := by
  have hl := (rpts_len _ p.data.toList (Nat.le_refl _)).1
  rw [sz_toList] at hl
  have := refMg_l0 (rpts p.data.toList) (by omega) (rpts p.data.toList).length 0 k (by omega) (by omega) (Nat.zero_le _)
  unfold errataref02_Magic.f errataref02_Parts.f
  rw [if_pos (by omega), Option.bind_some, mg_rpts _ _ (Nat.le_refl _)]
  exact this
theorem refPl_l0 (l : List S84) (hl : l.length ≤ 1000) (hx : ∀ x ∈ l, x.f4.size ≤ 1000) : ∀ (j i k : Nat) (acc : List UInt8), l.length - i ≤ j → j + 1 ≤ k → i ≤ l.length → acc.length ≤ 1000 * i →
    errataref02_Plain.l0 k l (mk acc) (i : Int) = some (mk (acc ++ (l.drop i).flatMap plB)) := by
  intro j
  induction j with
  | zero =>
    intro i k acc hj hk hi ha
    obtain ⟨k, rfl⟩ : ∃ m, k = m + 1 := ⟨k - 1, by omega⟩
    simp only [errataref02_Plain.l0]
    rw [if_neg (by omega), List.drop_of_length_le (by omega), List.flatMap_nil, List.append_nil]
  | succ j ih =>
    intro i k acc hj hk hil ha
    by_cases hi : i < l.length
    · obtain ⟨k, rfl⟩ : ∃ m, k = m + 1 := ⟨k - 1, by omega⟩
      have hs := hx l[i] (List.getElem_mem _)
      have hfin : ∀ t : ByteArray, t.size ≤ 1000 → t.data.toList = plB l[i] → (if (mk acc).size + t.size ≤ 9223372036854775807 then (errataref02_Plain.l0 k l (mk acc ++ t) ((i + 1 : Nat) : Int)) else (none)) = some (mk (acc ++ (l.drop i).flatMap plB)) := by
        intro t ht he
        have h2 : mk acc ++ t = mk (acc ++ plB l[i]) := ba_ext (by rw [app_list, he]; rfl)
        have h3 : (plB l[i]).length = t.size := by rw [← he, sz_toList]
        rw [if_pos (by rw [mk_len]; omega), h2, ih (i + 1) k _ (by omega) (by omega) (by omega) (by rw [List.length_append]; omega)]
        rw [List.drop_eq_getElem_cons hi, List.flatMap_cons, List.append_assoc]
      simp only [errataref02_Plain.l0]
      rw [if_pos (by omega), if_pos (by omega), rd84 l i hi, wrn i (by omega)]
      by_cases h0 : l[i].f0 = 0
      · rw [if_pos h0]
        by_cases h2 : l[i].f4.size = 2
        · rw [if_pos (by omega), if_pos (by omega)]
          exact hfin _ (by rw [ByteArray.size_extract]; omega) (by rw [ext_end, plB, if_pos ⟨h0, h2⟩])
        · rw [if_neg (by omega)]
          exact hfin _ hs (by rw [plB, if_neg (fun h => h2 h.2)])
      · rw [if_neg h0]
        exact hfin _ hs (by rw [plB, if_neg (fun h => h0 h.1)])
    · exact ih i k acc (by omega) (by omega) hil ha
theorem refPlain (p : ByteArray) (hp : p.size ≤ 1000) (k : Nat) (hk : p.size + 1 ≤ k) : errataref02_Plain.f k p = some (mk (pln p.data.toList)) := by
  have hl := rpts_len _ p.data.toList (Nat.le_refl _)
  rw [sz_toList] at hl
  have := refPl_l0 (rpts p.data.toList) (by omega) (fun x hx => by have := hl.2.1 x hx; omega) (rpts p.data.toList).length 0 k [] (by omega) (by omega) (Nat.zero_le _) (Nat.zero_le _)
  unfold errataref02_Plain.f errataref02_Parts.f
  rw [if_pos (by omega), Option.bind_some, pln_rpts _ _ (Nat.le_refl _)]
  exact this
end Go.Proofs.YtfefbnfmngdicaaDoor.PX

/- The reference's Pattern answers as the plain one, and the law TextTells. -/
namespace Go.Proofs.YtfefbnfmngdicaaDoor.PX
set_option linter.unusedVariables false
set_option linter.unusedSimpArgs false
open Go.RowKit Go.Proofs.YtfefbnfmngdicaaDoorW.PrintWords

theorem magic_step (p : ByteArray) (hp : p.size ≤ 1000000) : ∀ (d i k : Nat), p.size + 1 - i ≤ d → 2 * d + 2 ≤ k → i ≤ p.size + 1 → text_Magic.l0 k p (i : Int) = some (mg (p.data.toList.drop i)) := by
  intro d
  induction d using Nat.strongRecOn with
  | _ d ih =>
  intro i k hd hk hi0
  obtain ⟨k, rfl⟩ : ∃ m, k = m + 1 := ⟨k - 1, by omega⟩
  simp only [text_Magic.l0]
  by_cases hi : i < p.size
  · have hd0 : p.data.toList.drop i = p[i] :: p.data.toList.drop (i + 1) := by
      rw [List.drop_eq_getElem_cons (by rw [sz_toList]; exact hi), get_list p i hi]
    have hb0 := bt_nat p i hi
    rw [if_pos (by omega), if_pos (by omega), hb0]
    by_cases h92 : p[i] = 92
    · rw [if_pos (by rw [h92]; rfl), w64 (x := (i : Int) + 1) (by omega) (by omega), w64 (x := (i : Int) + 1 + 1) (by omega) (by omega)]
      have := ih (d - 2) (by omega) (i + 2) k (by omega) (by omega) (by omega)
      rw [show ((i + 2 : Nat) : Int) = (i : Int) + 1 + 1 from by omega] at this
      rw [this, mg_cons (p.data.toList.drop i) (by rw [hd0]; simp), hd0, h92]
      have e1 : mg1 (92 :: p.data.toList.drop (i + 1)) = false := rfl
      rw [e1, Bool.false_or]
      by_cases h1 : i + 1 < p.size
      · have hd1 : p.data.toList.drop (i + 1) = p[i + 1] :: p.data.toList.drop (i + 2) := by
          rw [List.drop_eq_getElem_cons (by rw [sz_toList]; exact h1), get_list p (i + 1) h1]
        rw [hd1]
        rfl
      · rw [List.drop_of_length_le (i := i + 1) (by rw [sz_toList]; omega), List.drop_of_length_le (i := i + 2) (by rw [sz_toList]; omega)]
        rfl
    · have n92 : ¬ (p[i].toNat : Int) = 92 := u8_ne (n := 92) h92 (by decide)
      rw [if_neg n92]
      have e42 : ((p[i].toNat : Int) = 42) ↔ p[i] = 42 := ⟨fun h => u8_eq (n := 42) (by omega) (by decide), fun h => by rw [h]; rfl⟩
      have e63 : ((p[i].toNat : Int) = 63) ↔ p[i] = 63 := ⟨fun h => u8_eq (n := 63) (by omega) (by decide), fun h => by rw [h]; rfl⟩
      have e91 : ((p[i].toNat : Int) = 91) ↔ p[i] = 91 := ⟨fun h => u8_eq (n := 91) (by omega) (by decide), fun h => by rw [h]; rfl⟩
      obtain ⟨k, rfl⟩ : ∃ m, k = m + 1 := ⟨k - 1, by omega⟩
      have hgo : text_Magic.l0 k p (wrap64 ((i : Int) + 1)) = some (mg (p.data.toList.drop (i + 1))) := by
        rw [w64 (x := (i : Int) + 1) (by omega) (by omega)]
        have := ih (d - 1) (by omega) (i + 1) k (by omega) (by omega) (by omega)
        rw [show ((i + 1 : Nat) : Int) = (i : Int) + 1 from by omega] at this
        exact this
      by_cases h42 : p[i] = 42
      · rw [if_pos (e42.2 h42)]
        simp only [text_Magic.j1]
        rw [if_pos trivial, mg_cons (p.data.toList.drop i) (by rw [hd0]; simp), hd0, h42]
        rfl
      · rw [if_neg (fun h => h42 (e42.1 h))]
        simp only [text_Magic.j1]
        by_cases h63 : p[i] = 63
        · rw [beq_iff_eq.2 (e63.2 h63), if_pos rfl, mg_cons (p.data.toList.drop i) (by rw [hd0]; simp), hd0, h63]
          rfl
        · rw [beq_eq_false_iff_ne.2 (fun h => h63 (e63.1 h)), if_neg (by decide), if_pos (by omega), if_pos (by omega), hb0]
          by_cases h91 : p[i] = 91
          · rw [if_pos (e91.2 h91), class_eq k p i hp hi (by omega)]
            simp only [Option.bind_some]
            rw [mg_cons (p.data.toList.drop i) (by rw [hd0]; simp), hd0, h91]
            unfold clsR
            cases hc : cls (p.data.toList.drop (i + 1)) with
            | none =>
              simp only
              rw [if_neg (by decide), hgo, part1_none _ hc]
              have : mg1 (91 :: p.data.toList.drop (i + 1)) = false := by simp [mg1, hc]
              rw [this, Bool.false_or]
              rfl
            | some x =>
              obtain ⟨n, neg, set⟩ := x
              simp only
              have : mg1 (91 :: p.data.toList.drop (i + 1)) = true := by simp [mg1, hc]
              rw [if_pos trivial, this, Bool.true_or]
          · rw [if_neg (fun h => h91 (e91.1 h)), hgo, mg_cons (p.data.toList.drop i) (by rw [hd0]; simp), hd0, part1_byte _ _ h92 h42 h63 h91]
            have : mg1 (p[i] :: p.data.toList.drop (i + 1)) = false := by simp [mg1, h42, h63, h91]
            rw [this, Bool.false_or]
            rfl
  · rw [if_neg (by omega), List.drop_of_length_le (by rw [sz_toList]; omega), mg_nil]
theorem magic_eq (k : Nat) (p : ByteArray) (hp : p.size ≤ 1000000) (hk : 2 * p.size + 4 ≤ k) : text_Magic.f k p = some (mg p.data.toList) := by
  have := magic_step p hp (p.size + 1) 0 k (by omega) (by omega) (by omega)
  simpa [text_Magic.f] using this

theorem mt_app_star : ∀ (ps : List Pt) (s : List UInt8), mt (ps ++ [none]) s = true ↔ ∃ i, i ≤ s.length ∧ mt ps (s.take i) = true
  | [], s => by
    show starAny (mt []) s = true ↔ _
    rw [starAny_iff]
    constructor
    · intro _
      exact ⟨0, Nat.zero_le _, rfl⟩
    · intro _
      refine ⟨s.length, Nat.le_refl _, ?_⟩
      rw [List.drop_length]
      rfl
  | some f :: ps, [] => by
    constructor
    · intro h; cases h
    · rintro ⟨i, hi, h⟩
      rw [List.take_nil] at h
      cases h
  | some f :: ps, c :: s => by
    show (f c && mt (ps ++ [none]) s) = true ↔ _
    rw [Bool.and_eq_true, mt_app_star ps s]
    constructor
    · rintro ⟨h1, i, hi, h2⟩
      refine ⟨i + 1, by simp only [List.length_cons]; omega, ?_⟩
      show (f c && mt ps (s.take i)) = true
      rw [h1, h2]
      rfl
    · rintro ⟨i, hi, h⟩
      cases i with
      | zero => cases h
      | succ i =>
        have h' : (f c && mt ps (s.take i)) = true := h
        rw [Bool.and_eq_true] at h'
        exact ⟨h'.1, i, by simp only [List.length_cons] at hi; omega, h'.2⟩
  | none :: ps, s => by
    show starAny (mt (ps ++ [none])) s = true ↔ ∃ i, i ≤ s.length ∧ starAny (mt ps) (s.take i) = true
    rw [starAny_iff]
    constructor
    · rintro ⟨j, hj, h⟩
      obtain ⟨i, hi, h2⟩ := (mt_app_star ps _).1 h
      rw [List.length_drop] at hi
      refine ⟨j + i, by omega, (starAny_iff _ _).2 ⟨j, by rw [List.length_take]; omega, ?_⟩⟩
      rw [List.drop_take, show j + i - j = i by omega]
      exact h2
    · rintro ⟨i, hi, h⟩
      obtain ⟨j, hj, h2⟩ := (starAny_iff _ _).1 h
      rw [List.length_take] at hj
      refine ⟨j, by omega, (mt_app_star ps _).2 ⟨i - j, by rw [List.length_drop]; omega, ?_⟩⟩
      rw [List.drop_take] at h2
      exact h2

/-! ### In, fits -/
theorem rin_step (set : ByteArray) (c : UInt8) (hs : set.size ≤ 1000000) : ∀ (d j k : Nat), set.size - j ≤ d → j ≤ set.size → 3 * d + 1 ≤ k →
    errataref02_In.l0 k set (c.toNat : Int) (j : Int) = some (inSet (set.data.toList.drop j) c) := by
  intro d
  induction d using Nat.strongRecOn with
  | _ d ih =>
    intro j k hd hj hk
    obtain ⟨k, rfl⟩ : ∃ m, k = m + 1 := ⟨k - 1, by omega⟩
    simp only [errataref02_In.l0]
    by_cases h : j < set.size
    · rw [if_pos (by omega)]
      obtain ⟨k, rfl⟩ : ∃ m, k = m + 1 := ⟨k - 1, by omega⟩
      have hd0 := dropC set j h
      have hb0 := bt_nat set j h
      rw [w64 (x := (j : Int) + 2) (by omega) (by omega), w64 (x := (j : Int) + 1) (by omega) (by omega)]
      have one : (if (bt set (j : Int)) = (c.toNat : Int) then (some true) else (errataref02_In.l0 k set (c.toNat : Int) ((j : Int) + 1))) = some (set[j] == c || inSet (set.data.toList.drop (j + 1)) c) := by
        have := ih (d - 1) (by omega) (j + 1) k (by omega) (by omega) (by omega)
        rw [show ((j + 1 : Nat) : Int) = (j : Int) + 1 from by omega] at this
        rw [this, hb0, u8_beq]
        by_cases e : (set[j].toNat : Int) = (c.toNat : Int)
        · rw [if_pos e, beq_iff_eq.2 e]; rfl
        · rw [if_neg e, beq_eq_false_iff_ne.2 e]; rfl
      by_cases h2 : j + 2 < set.size
      · have hb1 := bt_nat set (j + 1) (by omega)
        have hb2 := bt_nat set (j + 2) h2
        rw [show ((j + 1 : Nat) : Int) = (j : Int) + 1 from by omega] at hb1
        rw [show ((j + 2 : Nat) : Int) = (j : Int) + 2 from by omega] at hb2
        have hd1 := dropC set (j + 1) (by omega)
        have hd2 := dropC set (j + 2) h2
        rw [if_pos (by omega), if_pos (by omega), if_pos (by omega), hb1]
        simp only [errataref02_In.j1]
        by_cases h45 : set[j + 1] = 45
        · have e : ((set[j + 1].toNat : Int) == 45) = true := by rw [h45]; rfl
          obtain ⟨k, rfl⟩ : ∃ m, k = m + 1 := ⟨k - 1, by omega⟩
          rw [e, if_pos rfl, if_pos (by omega), if_pos (by omega), w64 (x := (j : Int) + 2) (by omega) (by omega), hb0, hb2]
          simp only [errataref02_In.j2]
          rw [w64 (x := (j : Int) + 3) (by omega) (by omega)]
          have := ih (d - 3) (by omega) (j + 3) k (by omega) (by omega) (by omega)
          rw [show ((j + 3 : Nat) : Int) = (j : Int) + 3 from by omega] at this
          rw [this, hd0, hd1, hd2, inSet, if_pos h45]
          by_cases g1 : set[j].toNat ≤ c.toNat
          · rw [if_pos (by omega), if_pos (by omega), if_pos (by omega), decide_eq_true g1, Bool.true_and]
            by_cases g2 : c.toNat ≤ set[j + 2].toNat
            · rw [if_pos (decide_eq_true (by omega)), decide_eq_true g2]; rfl
            · rw [if_neg (fun hh => g2 (by have := of_decide_eq_true hh; omega)), decide_eq_false g2]; rfl
          · rw [if_neg (by omega), decide_eq_false g1, if_neg (by decide)]; rfl
        · have e : ((set[j + 1].toNat : Int) == 45) = false := by
            rw [beq_eq_false_iff_ne]
            intro hx
            exact h45 (UInt8.toNat_inj.1 (by show _ = 45; omega))
          rw [e, if_neg (by decide), if_pos (by omega), if_pos (by omega), w64 (x := (j : Int) + 1) (by omega) (by omega), one, hd0, hd1, hd2, inSet, if_neg h45]
      · rw [if_neg (by omega)]
        simp only [errataref02_In.j1]
        rw [if_neg (by decide), if_pos (by omega), if_pos (by omega), w64 (x := (j : Int) + 1) (by omega) (by omega), one, hd0]
        by_cases h1 : j + 1 < set.size
        · have hd1 : set.data.toList.drop (j + 1) = [set[j + 1]] := by
            rw [dropC set (j + 1) h1, List.drop_of_length_le (by rw [sz_toList]; omega)]
          rw [hd1, inSet, inSet]
        · rw [List.drop_of_length_le (by rw [sz_toList]; omega), inSet, inSet, Bool.or_false]
    · rw [if_neg (by omega), List.drop_of_length_le (by rw [sz_toList]; omega)]
      rfl
theorem refIn (k : Nat) (set : ByteArray) (c : UInt8) (hs : set.size ≤ 1000000) (hk : 3 * set.size + 1 ≤ k) : errataref02_In.f k set (c.toNat : Int) = some (inSet set.data.toList c) := by
  have := rin_step set c hs set.size 0 k (by omega) (by omega) hk
  exact this
theorem refFits (k : Nat) (x : S84) (c : UInt8) (hs : x.f2.size ≤ 1000000) (hk : 3 * x.f2.size + 1 ≤ k) : errataref02_fits.f k x.f0 x.f1 x.f2 x.f3 x.f4 (c.toNat : Int) = some (fitB x c) := by
  unfold errataref02_fits.f fitB
  by_cases h2 : x.f0 = 2
  · rw [if_pos h2, if_pos h2]
  · rw [if_neg h2, if_neg h2]
    by_cases h3 : x.f0 = 3
    · rw [if_pos h3, if_pos h3, refIn k x.f2 c hs hk]; rfl
    · rw [if_neg h3, if_neg h3]
theorem cls_set (r : List UInt8) (n : Nat) (b : Bool) (set : List UInt8) (h : cls r = some (n, b, set)) : set.length ≤ r.length := by
  unfold cls at h
  split at h
  · obtain ⟨_, _, rfl⟩ : _ ∧ _ ∧ _ := by simpa using h
    simp only [List.length_take, List.length_drop, List.length_tail]; omega
  · cases hc : closeAt r with
    | none => rw [hc] at h; cases h
    | some m =>
      rw [hc] at h
      obtain ⟨_, _, rfl⟩ : _ ∧ _ ∧ _ := by simpa using h
      rw [List.length_take]; omega
theorem rpt_f2 (c : UInt8) (r : List UInt8) : (rpt (c :: r)).f2.size ≤ r.length := by
  rw [rpt_eq]
  split
  · exact Nat.zero_le _
  · split
    · exact Nat.zero_le _
    · split
      · exact Nat.zero_le _
      · split
        · cases hc : cls r with
          | none => exact Nat.zero_le _
          | some q =>
            obtain ⟨n, neg, set⟩ := q
            show (byt set).size ≤ _
            rw [byt_sz]
            exact cls_set r n neg set hc
        · exact Nat.zero_le _
theorem rpts_f2 : ∀ (n : Nat) (l : List UInt8), l.length ≤ n → ∀ x ∈ rpts l, x.f2.size ≤ l.length
  | 0, [], _ => fun x hx => by cases hx
  | 0, c :: r, h => absurd h (Nat.not_succ_le_zero _)
  | _ + 1, [], _ => fun x hx => by cases hx
  | n + 1, c :: r, h => by
    have hp := rpt_pos c r
    have ih := rpts_f2 n ((c :: r).drop (rpt (c :: r)).f4.size) (by rw [List.length_drop]; omega)
    rw [rpts_cons]
    intro x hx
    rcases List.mem_cons.1 hx with rfl | hx
    · have := rpt_f2 c r; rw [List.length_cons]; omega
    · have := ih x hx; rw [List.length_drop] at this; omega

/-! ### The table of Pattern -/
theorem mt_app_byte (f : UInt8 → Bool) : ∀ (ps : List Pt) (s : List UInt8), mt (ps ++ [some f]) s = true ↔ ∃ t c, s = t ++ [c] ∧ mt ps t = true ∧ f c = true
  | [], [] => by
    constructor
    · intro h; cases h
    · rintro ⟨t, c, h, _⟩
      have := congrArg List.length h
      simp at this
  | [], c :: r => by
    show (f c && r.isEmpty) = true ↔ _
    constructor
    · intro h
      rw [Bool.and_eq_true] at h
      cases r with
      | nil => exact ⟨[], c, rfl, rfl, h.1⟩
      | cons a r => cases h.2
    · rintro ⟨t, d, h, h1, h2⟩
      cases t with
      | nil =>
        injection h with h3 h4
        subst h3 h4
        rw [h2]; rfl
      | cons a t => cases h1
  | some g :: ps, [] => by
    constructor
    · intro h; cases h
    · rintro ⟨t, c, h, _⟩
      have := congrArg List.length h
      simp at this
  | some g :: ps, a :: s => by
    show (g a && mt (ps ++ [some f]) s) = true ↔ _
    rw [Bool.and_eq_true, mt_app_byte f ps s]
    constructor
    · rintro ⟨h1, t, c, rfl, h2, h3⟩
      refine ⟨a :: t, c, rfl, ?_, h3⟩
      show (g a && mt ps t) = true
      rw [h1, h2]; rfl
    · rintro ⟨t, c, h, h1, h2⟩
      cases t with
      | nil => cases h1
      | cons b t =>
        injection h with h3 h4
        subst h3
        have h1' : (g a && mt ps t) = true := h1
        rw [Bool.and_eq_true] at h1'
        exact ⟨h1'.1, t, c, h4, h1'.2, h2⟩
  | none :: ps, s => by
    show starAny (mt (ps ++ [some f])) s = true ↔ _
    rw [starAny_iff]
    constructor
    · rintro ⟨j, hj, h⟩
      obtain ⟨t, c, h1, h2, h3⟩ := (mt_app_byte f ps _).1 h
      refine ⟨s.take j ++ t, c, ?_, ?_, h3⟩
      · rw [List.append_assoc, ← h1, List.take_append_drop]
      · show starAny (mt ps) (s.take j ++ t) = true
        rw [starAny_iff]
        refine ⟨j, by rw [List.length_append, List.length_take]; omega, ?_⟩
        rw [List.drop_append_of_le_length (by rw [List.length_take]; omega), List.drop_of_length_le (by rw [List.length_take]; omega)]
        exact h2
    · rintro ⟨t, c, rfl, h1, h2⟩
      obtain ⟨j, hj, h3⟩ := (starAny_iff _ _).1 (show starAny (mt ps) t = true from h1)
      refine ⟨j, by rw [List.length_append]; omega, (mt_app_byte f ps _).2 ⟨t.drop j, c, ?_, h3, h2⟩⟩
      rw [List.drop_append_of_le_length hj]
theorem byte_zero (f : UInt8 → Bool) (ps : List Pt) (s : List UInt8) : mt (ps ++ [some f]) (s.take 0) = false := by
  rw [List.take_zero]
  cases h : mt (ps ++ [some f]) [] with
  | false => rfl
  | true =>
    obtain ⟨t, c, h, _⟩ := (mt_app_byte f ps []).1 h
    have := congrArg List.length h
    simp at this
theorem byte_step (f : UInt8 → Bool) (ps : List Pt) (s : List UInt8) (j : Nat) (h : j < s.length) : mt (ps ++ [some f]) (s.take (j + 1)) = (mt ps (s.take j) && f s[j]) := by
  rw [Bool.eq_iff_iff, mt_app_byte, Bool.and_eq_true]
  have ht : s.take (j + 1) = s.take j ++ [s[j]] := by rw [List.take_add_one, List.getElem?_eq_getElem h]; rfl
  rw [ht]
  constructor
  · rintro ⟨t, c, h1, h2, h3⟩
    obtain ⟨e1, e2⟩ := List.append_inj' h1 rfl
    injection e2 with e2 _
    rw [e1, e2]; exact ⟨h2, h3⟩
  · rintro ⟨h1, h2⟩
    exact ⟨_, _, rfl, h1, h2⟩
theorem star_zero (ps : List Pt) (s : List UInt8) : mt (ps ++ [none]) (s.take 0) = mt ps (s.take 0) := by
  rw [Bool.eq_iff_iff, mt_app_star, List.take_zero]
  constructor
  · rintro ⟨i, _, h⟩; rwa [List.take_nil] at h
  · intro h; exact ⟨0, Nat.zero_le _, h⟩
theorem star_step (ps : List Pt) (s : List UInt8) (j : Nat) (h : j < s.length) : mt (ps ++ [none]) (s.take (j + 1)) = (mt ps (s.take (j + 1)) || mt (ps ++ [none]) (s.take j)) := by
  rw [Bool.eq_iff_iff, mt_app_star, Bool.or_eq_true, mt_app_star]
  constructor
  · rintro ⟨i, hi, h1⟩
    rw [List.length_take] at hi
    by_cases hj : i ≤ j
    · refine .inr ⟨i, by rw [List.length_take]; omega, ?_⟩
      rw [List.take_take] at h1 ⊢
      rwa [Nat.min_eq_left (by omega)] at h1 ⊢
    · rw [List.take_take, show min i (j + 1) = j + 1 by omega] at h1
      exact .inl h1
  · rintro (h1 | ⟨i, hi, h1⟩)
    · refine ⟨j + 1, by rw [List.length_take]; omega, ?_⟩
      rw [List.take_take, Nat.min_self]
      exact h1
    · rw [List.length_take] at hi
      refine ⟨i, by rw [List.length_take]; omega, ?_⟩
      rw [List.take_take] at h1 ⊢
      rwa [Nat.min_eq_left (by omega)] at h1 ⊢
/-- A table. -/
def tb (n : Nat) (T : Nat → Bool) : List Bool := (List.range (n + 1)).map T
theorem tb_len (n : Nat) (T : Nat → Bool) : (tb n T).length = n + 1 := by unfold tb; rw [List.length_map, List.length_range]
theorem tb_get (n : Nat) (T : Nat → Bool) (k : Nat) (h : k ≤ n) : rdOf false (tb n T) (k : Int) = T k := by
  unfold rdOf
  rw [Int.toNat_natCast, List.getD_eq_getElem?_getD, List.getElem?_eq_getElem (by rw [tb_len]; omega)]
  simp only [tb, List.getElem_map, List.getElem_range, Option.getD_some]
theorem tb_set (n : Nat) (T : Nat → Bool) (k : Nat) (v : Bool) : (tb n T).set (k : Int).toNat v = tb n (fun q => if q = k then v else T q) := by
  rw [Int.toNat_natCast]
  apply List.ext_getElem
  · rw [List.length_set, tb_len, tb_len]
  · intro i h1 h2
    rw [List.getElem_set]
    simp only [tb, List.getElem_map, List.getElem_range]
    by_cases h : k = i
    · rw [if_pos h, if_pos h.symm]
    · rw [if_neg h, if_neg (fun e => h e.symm)]
theorem tb_congr (n : Nat) (T T' : Nat → Bool) (h : ∀ q, q ≤ n → T q = T' q) : tb n T = tb n T' := by
  unfold tb
  exact List.map_congr_left (fun q hq => h q (by have := List.mem_range.1 hq; omega))
theorem pat_l1 (s : ByteArray) (l : List S84) (hs : s.size ≤ 300) (hl : l.length ≤ 100) (hf : ∀ x ∈ l, x.f2.size ≤ 100) (i : Nat) (hi : i < l.length) (ps : List Pt) (R : Bool) (K : Nat) (hK : 400 ≤ K)
    (H : ∀ k, K ≤ k → errataref02_Pattern.l0 k s l (tb s.size fun q => mt (ps ++ [ptOf l[i]]) (s.data.toList.take q)) ((i + 1 : Nat) : Int) = some R) :
    ∀ (e j k : Nat), s.size + 1 - j ≤ e → j ≤ s.size + 1 → K + e + 1 ≤ k →
    errataref02_Pattern.l1 k s l (tb s.size fun q => mt ps (s.data.toList.take q)) (i : Int) (tb s.size fun q => if q < j then mt (ps ++ [ptOf l[i]]) (s.data.toList.take q) else false) (j : Int) = some R := by
  intro e
  induction e with
  | zero =>
    intro j k he hj hk
    obtain ⟨k, rfl⟩ : ∃ m, k = m + 1 := ⟨k - 1, by omega⟩
    simp only [errataref02_Pattern.l1]
    rw [if_neg (by omega), wrn i (by omega), tb_congr _ _ _ (fun q hq => if_pos (by omega))]
    exact H k (by omega)
  | succ e ih =>
    intro j k he hj hk
    by_cases hjs : j ≤ s.size
    · obtain ⟨k, rfl⟩ : ∃ m, k = m + 1 := ⟨k - 1, by omega⟩
      have hx := hf l[i] (List.getElem_mem _)
      have go : ∀ v : Bool, v = mt (ps ++ [ptOf l[i]]) (s.data.toList.take j) →
          errataref02_Pattern.l1 k s l (tb s.size fun q => mt ps (s.data.toList.take q)) (i : Int) ((tb s.size fun q => if q < j then mt (ps ++ [ptOf l[i]]) (s.data.toList.take q) else false).set (j : Int).toNat v) ((j + 1 : Nat) : Int) = some R := by
        intro v hv
        have := ih (j + 1) k (by omega) (by omega) (by omega)
        have e : tb s.size (fun q => if q = j then v else if q < j then mt (ps ++ [ptOf l[i]]) (s.data.toList.take q) else false) = tb s.size (fun q => if q < j + 1 then mt (ps ++ [ptOf l[i]]) (s.data.toList.take q) else false) := tb_congr _ _ _ (fun q hq => by
          by_cases h1 : q = j
          · rw [if_pos h1, if_pos (by omega), hv, h1]
          · rw [if_neg h1]
            by_cases h2 : q < j
            · rw [if_pos h2, if_pos (by omega)]
            · rw [if_neg h2, if_neg (by omega)])
        rw [tb_set, e]
        exact this
      simp only [errataref02_Pattern.l1]
      rw [if_pos (by omega), if_pos (by omega), if_pos (by omega), rd84 l i hi, wrn j (by omega)]
      simp only [tb_len]
      by_cases h1 : l[i].f0 = 1
      · have hp : ptOf l[i] = none := if_pos h1
        rw [if_pos h1, if_pos (by omega), if_pos (by omega), tb_get _ _ _ hjs]
        by_cases ht : mt ps (s.data.toList.take j) = true
        · rw [if_pos ht, if_pos (by omega)]
          refine go true ?_
          rw [hp]
          exact ((mt_app_star _ _).2 ⟨j, by rw [List.length_take, sz_toList]; omega, by rw [List.take_take, Nat.min_self]; exact ht⟩).symm
        · rw [if_neg ht]
          by_cases h0 : j = 0
          · subst h0
            rw [if_neg (by omega), if_pos (by omega)]
            refine go false ?_
            rw [hp, star_zero]
            exact (Bool.eq_false_iff.2 ht).symm
          · obtain ⟨j', rfl⟩ : ∃ j', j = j' + 1 := ⟨j - 1, by omega⟩
            have hw : wrap64 (((j' + 1 : Nat) : Int) - 1) = (j' : Int) := by rw [wr (by omega) (by omega)]; omega
            rw [if_pos (by omega), hw, if_pos (by omega), if_pos (by omega), if_pos (by omega), tb_get _ _ _ (by omega)]
            refine go _ ?_
            rw [if_pos (by omega), hp, star_step _ _ _ (by rw [sz_toList]; omega), Bool.eq_false_iff.2 ht, Bool.false_or]
      · have hp : ptOf l[i] = some (fitB l[i]) := if_neg h1
        rw [if_neg h1]
        by_cases h0 : j = 0
        · subst h0
          rw [if_neg (by omega)]
          have := ih 1 k (by omega) (by omega) (by omega)
          have e : tb s.size (fun q => if q < 0 then mt (ps ++ [ptOf l[i]]) (s.data.toList.take q) else false) = tb s.size (fun q => if q < 1 then mt (ps ++ [ptOf l[i]]) (s.data.toList.take q) else false) := tb_congr _ _ _ (fun q hq => by
            rw [if_neg (by omega)]
            by_cases h2 : q = 0
            · rw [h2, if_pos (by omega), hp, byte_zero]
            · rw [if_neg (by omega)])
          rw [e]
          exact this
        · obtain ⟨j', rfl⟩ : ∃ j', j = j' + 1 := ⟨j - 1, by omega⟩
          have hw : wrap64 (((j' + 1 : Nat) : Int) - 1) = (j' : Int) := by rw [wr (by omega) (by omega)]; omega
          have hj' : j' < s.size := by omega
          rw [if_pos (by omega), hw, if_pos (by omega), if_pos (by omega), tb_get _ _ _ (by omega)]
          by_cases ht : mt ps (s.data.toList.take j') = true
          · rw [if_pos ht, if_pos (by omega), btn s j' hj', refFits k l[i] s[j'] (by omega) (by omega), Option.bind_some, if_pos (by omega), if_pos (by omega)]
            refine go _ ?_
            rw [hp, byte_step _ _ _ _ (by rw [sz_toList]; exact hj'), ht, Bool.true_and, get_list s j' hj']
          · rw [if_neg ht, if_pos (by omega), if_pos (by omega)]
            refine go false ?_
            rw [hp, byte_step _ _ _ _ (by rw [sz_toList]; exact hj'), Bool.eq_false_iff.2 ht, Bool.false_and]
    · have : j = s.size + 1 := by omega
      exact ih j k (by omega) hj (by omega)
theorem tb_rep (n : Nat) : List.replicate (n + 1) false = tb n fun q => if q < 0 then true else false := by
  apply List.ext_getElem
  · rw [List.length_replicate, tb_len]
  · intro i h1 h2
    simp only [tb, List.getElem_map, List.getElem_range, List.getElem_replicate]
    rfl
theorem pat_l0 (s : ByteArray) (l : List S84) (hs : s.size ≤ 300) (hl : l.length ≤ 100) (hf : ∀ x ∈ l, x.f2.size ≤ 100) : ∀ (d i k : Nat), l.length - i ≤ d → i ≤ l.length → 400 * d + 1000 ≤ k →
    errataref02_Pattern.l0 k s l (tb s.size fun q => mt ((l.take i).map ptOf) (s.data.toList.take q)) (i : Int) = some (mt (l.map ptOf) s.data.toList) := by
  intro d
  induction d with
  | zero =>
    intro i k hd hi hk
    obtain ⟨k, rfl⟩ : ∃ m, k = m + 1 := ⟨k - 1, by omega⟩
    simp only [errataref02_Pattern.l0]
    rw [if_neg (by omega), if_pos (by omega), tb_len, if_pos (by omega), tb_get _ _ _ (Nat.le_refl _), List.take_of_length_le (by omega), List.take_of_length_le (by rw [sz_toList]; exact Nat.le_refl _)]
  | succ d ih =>
    intro i k hd hil hk
    by_cases hi : i < l.length
    · obtain ⟨k, rfl⟩ : ∃ m, k = m + 1 := ⟨k - 1, by omega⟩
      have htk : (l.take (i + 1)).map ptOf = (l.take i).map ptOf ++ [ptOf l[i]] := by
        rw [List.take_add_one, List.getElem?_eq_getElem hi, List.map_append]; rfl
      simp only [errataref02_Pattern.l0]
      rw [if_pos (by omega), wrn s.size (by omega), if_pos (by omega), if_pos (by omega), Int.toNat_natCast, tb_rep]
      have := pat_l1 s l hs hl hf i hi ((l.take i).map ptOf) (mt (l.map ptOf) s.data.toList) (400 * d + 1000) (by omega) (fun k' hk' => by
        have := ih (i + 1) k' (by omega) (by omega) hk'
        rw [htk] at this
        exact this) (s.size + 1) 0 k (by omega) (by omega) (by omega)
      refine Eq.trans ?_ this
      congr 1
    · exact ih i k (by omega) hil (by omega)
theorem refPat (p s : ByteArray) (hp : p.size ≤ 100) (hs : s.size ≤ 300) (k : Nat) (hk : 50000 ≤ k) : errataref02_Pattern.f k p s = some (mt (pts p.data.toList) s.data.toList) := by
  have hl := (rpts_len _ p.data.toList (Nat.le_refl _)).1
  have hf := rpts_f2 _ p.data.toList (Nat.le_refl _)
  rw [sz_toList] at hl hf
  have := pat_l0 s (rpts p.data.toList) hs (by omega) (fun x hx => by have := hf x hx; omega) (rpts p.data.toList).length 0 k (by omega) (by omega) (by omega)
  unfold errataref02_Pattern.f errataref02_Parts.f
  rw [if_pos (by omega), Option.bind_some, wrn s.size (by omega), if_pos (by omega), if_pos (by omega), Option.bind_some, Int.toNat_natCast, if_pos (by rw [List.length_replicate]; omega)]
  rw [pts_rpts _ _ (Nat.le_refl _)]
  refine Eq.trans ?_ this
  congr 1
  rw [tb_rep, show ((0 : Int).toNat) = ((0 : Nat) : Int).toNat from rfl, tb_set]
  refine tb_congr _ _ _ (fun q hq => ?_)
  by_cases h0 : q = 0
  · rw [if_pos h0, h0]; rfl
  · rw [if_neg h0]
    show false = List.isEmpty (s.data.toList.take q)
    cases h : s.data.toList.take q with
    | nil =>
      have := congrArg List.length h
      rw [List.length_take, sz_toList, List.length_nil] at this
      omega
    | cons a b => rfl

theorem unl_bound (l : List ByteArray) (h : ∀ x ∈ l, x.size ≤ 100) : (unl l).length ≤ 101 * l.length := by
  induction l with
  | nil => exact Nat.le_refl _
  | cons a l ih =>
    have h1 := h a (List.mem_cons_self ..)
    have h2 := ih (fun x hx => h x (List.mem_cons_of_mem _ hx))
    rw [show unl (a :: l) = (a.data.toList ++ [10]) ++ unl l from List.flatMap_cons, List.length_append, List.length_append, sz_toList, List.length_singleton, List.length_cons]
    omega
theorem flG_len0 : ∀ (l : List UInt8) (c : Option (List UInt8)), (flG c l).length ≤ l.length + c.toList.length
  | [], c => by simp [flG]
  | d :: l, c => by
    cases hd : whB d with
    | true =>
      have := flG_len0 l none
      rw [flG_white _ _ _ hd, List.length_append, List.length_cons]
      simp only [Option.toList_none, List.length_nil] at this
      omega
    | false =>
      have := flG_len0 l (some (c.getD [] ++ [d]))
      rw [flG_other _ _ _ hd, List.length_cons]
      simp only [Option.toList_some, List.length_cons, List.length_nil] at this
      omega
theorem flG_lenV (l : List UInt8) (c : Option (List UInt8)) : (flG c l).length ≤ l.length + 1 := by
  have := flG_len0 l c
  have hc : c.toList.length ≤ 1 := by cases c <;> simp
  omega
theorem lns_len (l : List UInt8) : (lns l).length ≤ l.length + 1 := by
  have h1 := congrArg List.length (ends_lns l)
  have h2 : ∀ (A : List (List UInt8)), A.length ≤ (ends A).length := by
    intro A
    induction A with
    | nil => exact Nat.le_refl _
    | cons x A ih => rw [ends_cons, List.length_append, List.length_cons, List.length_cons]; omega
  have := h2 (lns l)
  unfold fin10 at h1
  split at h1
  · omega
  · rw [List.length_append, List.length_singleton] at h1; omega

/-! ### The law -/
theorem tells_j3 (x1 x2 : ByteArray) (h1 : x1.size ≤ 300) (h2 : x2.size ≤ 100) (k : Nat) (hk : 60000 ≤ k) : erratalaw02_TextTells.j3 k x1 x2 true false = some true := by
  obtain ⟨k, rfl⟩ : ∃ m, k = m + 1 := ⟨k - 1, by omega⟩
  have e1 : text_Pattern.f x2 x1 = some (mt (pts x2.data.toList) x1.data.toList) := if_pos ⟨by omega, by omega⟩
  have e2 := refPat x2 x1 h2 h1 k (by omega)
  have e3 := magic_eq k x2 (by omega) (by omega)
  have e4 := refMagic x2 (by omega) k (by omega)
  have e5 : text_Plain.f x2 = some (mk (pln x2.data.toList)) := if_pos (by omega)
  have e6 := refPlain x2 (by omega) k (by omega)
  have e7 : text_Escape.f x1 = some (mk (esc x1.data.toList)) := if_pos (by omega)
  have e8 := refEsc x1 (by omega) k (by omega)
  simp only [erratalaw02_TextTells.j3]
  rw [if_neg (by decide), if_pos trivial, e1, e2, e3, e4, e5, e6, e7, e8]
  simp only [Option.bind_some]
  rw [if_pos (beq_self_eq_true _), if_pos (beq_self_eq_true _), if_pos trivial, beq_self_eq_true]
theorem tells_j2 (x1 x2 : ByteArray) (x3 : List ByteArray) (h1 : x1.size ≤ 300) (h2 : x2.size ≤ 100) (h3 : x3.length ≤ 30) (h4 : ∀ x ∈ x3, x.size ≤ 100) (k : Nat) (hk : 60010 ≤ k) : erratalaw02_TextTells.j2 k x1 x2 x3 true false = some true := by
  obtain ⟨k, rfl⟩ : ∃ m, k = m + 1 := ⟨k - 1, by omega⟩
  have hul : (unl x3).length ≤ 101 * x3.length := unl_bound x3 h4
  have e1 := lines_eq x1 (by omega)
  have e2 := refLines x1 (by omega) k (by omega)
  have e3 := same_refl ((lns x1.data.toList).map mk) (by rw [List.length_map]; have := lns_len x1.data.toList; rw [sz_toList] at this; omega) k (by rw [List.length_map]; have := lns_len x1.data.toList; rw [sz_toList] at this; omega)
  have e4 : text_Unlines.f x3 = some (mk (unl x3)) := if_pos ⟨by omega, by omega⟩
  have e5 := refUnl x3 (by omega) (fun x hx => by have := h4 x hx; omega) k (by omega)
  have e6 := fields_eq x1 (by omega)
  have e7 := refFld x1 (by omega) k (by omega)
  have e8 := same_refl ((fld x1.data.toList).map mk) (by rw [List.length_map]; have := flG_lenV x1.data.toList none; rw [sz_toList] at this; unfold fld; omega) k (by rw [List.length_map]; have := flG_lenV x1.data.toList none; rw [sz_toList] at this; unfold fld; omega)
  have e9 := tells_j3 x1 x2 h1 h2 k (by omega)
  simp only [erratalaw02_TextTells.j2]
  rw [if_neg (by decide), e1, e2, Option.bind_some, Option.bind_some, e3, Option.bind_some, if_pos rfl, e4, e5, Option.bind_some, Option.bind_some, if_pos rfl, e6, e7, Option.bind_some, Option.bind_some, e8, Option.bind_some]
  exact e9
theorem tells_l0 (x0 : Int) (x1 x2 : ByteArray) (x3 : List ByteArray) (h00 : -9223372036854775808 ≤ x0) (h01 : x0 ≤ 9223372036854775807) (h1 : x1.size ≤ 300) (h2 : x2.size ≤ 100) (h3 : x3.length ≤ 30) : ∀ (d i k : Nat), x3.length - i ≤ d → i ≤ x3.length → d + 70000 ≤ k →
    (∀ j (h : j < x3.length), j < i → x3[j].size ≤ 100) → erratalaw02_TextTells.l0 k x0 x1 x2 x3 true (i : Int) = some true := by
  intro d
  induction d with
  | zero =>
    intro i k hd hi hk hall
    obtain ⟨k, rfl⟩ : ∃ m, k = m + 1 := ⟨k - 1, by omega⟩
    have h4 : ∀ x ∈ x3, x.size ≤ 100 := fun x hx => by
      obtain ⟨j, hj, rfl⟩ := List.getElem_of_mem hx
      exact hall j hj (by omega)
    have e1 : text_Int.f x1 = some (intOf64 x1.data.toList) := if_pos (by omega)
    have e2 := refInt x1 k (by omega)
    have e3 : text_Unquote.f x1 = some (unqR x1) := if_pos (by omega)
    have e4 := refUnq x1 (by omega) k (by omega)
    have e5 : text_Decimal.f x0 = some (bs (Lib.itoa x0)) := if_pos ⟨h00, h01⟩
    have e6 := refDec x0 h00 h01 k (by omega)
    have e7 : text_Quote.f x1 = some (bs (quo x1.data.toList)) := if_pos (by omega)
    have e8 := refQuote x1 (by omega) k (by omega)
    have e9 := tells_j2 x1 x2 x3 h1 h2 h3 h4 k (by omega)
    simp only [erratalaw02_TextTells.l0]
    rw [if_neg (by omega), e1, e2, e3, e4, e5, e6, e7, e8]
    simp only [Option.bind_some]
    rw [if_pos trivial, if_neg (by simp), if_pos trivial, if_neg (by simp), if_pos trivial, show ((bs (quo x1.data.toList)).toList != (bs (quo x1.data.toList)).toList) = false by simp]
    exact e9
  | succ d ih =>
    intro i k hd hil hk hall
    by_cases hi : i < x3.length
    · obtain ⟨k, rfl⟩ : ∃ m, k = m + 1 := ⟨k - 1, by omega⟩
      simp only [erratalaw02_TextTells.l0]
      rw [if_pos (by omega), if_pos (by omega), rd_at x3 i hi, wrn i (by omega)]
      by_cases hb : x3[i].size ≤ 100
      · rw [if_neg (by omega)]
        exact ih (i + 1) k (by omega) (by omega) (by omega) (fun j hj hji => by
          by_cases h : j < i
          · exact hall j hj h
          · obtain rfl : j = i := by omega
            exact hb)
      · rw [if_pos (by omega)]
    · exact ih i k (by omega) hil (by omega) hall
theorem TextTells_pure (a0 : Int) (a1 a2 : ByteArray) (l3 : List ByteArray) (h00 : -9223372036854775808 ≤ a0) (h01 : a0 ≤ 9223372036854775807) : erratalaw02_TextTells.f 80000 a0 a1 a2 l3 = some true := by
  have yes : erratalaw02_TextTells.j0 80000 a0 a1 a2 l3 true true = some true := by
    rw [show (80000 : Nat) = 79999 + 1 from rfl]
    simp only [erratalaw02_TextTells.j0]
    rw [if_pos trivial]
  unfold erratalaw02_TextTells.f
  rw [small_true 80000 (by omega), Option.bind_some]
  by_cases h1 : a1.size ≤ 300
  · rw [if_neg (by omega)]
    by_cases h2 : a2.size ≤ 100
    · rw [if_neg (by omega)]
      by_cases h3 : l3.length ≤ 30
      · rw [decide_eq_false (by omega), show (80000 : Nat) = 79999 + 1 from rfl]
        simp only [erratalaw02_TextTells.j0]
        rw [if_neg (by decide)]
        exact tells_l0 a0 a1 a2 l3 h00 h01 h1 h2 h3 l3.length 0 79999 (by omega) (Nat.zero_le _) (by omega) (fun j _ hj => absurd hj (Nat.not_lt_zero _))
      · rw [decide_eq_true (by omega)]
        exact yes
    · rw [if_pos (by omega)]; exact yes
  · rw [if_pos (by omega)]; exact yes
theorem TextTells_ex (a0 : Int) (a1 a2 : ByteArray) (l3 : List ByteArray) (w0 : (Lit.int .i64 a0).wf = true) (w1 : a1.size ≤ 140737488351232) (w2 : a2.size ≤ 140737488351232) : ∃ k, erratalaw02_TextTells.f k a0 a1 a2 l3 = some true := by
  have h := w0
  simp [Lit.wf] at h
  have e1 : IntKind.i64.min = -9223372036854775808 := by rfl
  have e2 : IntKind.i64.max = 9223372036854775807 := by rfl
  rw [e1] at h
  exact ⟨80000, TextTells_pure a0 a1 a2 l3 (by omega) (by omega)⟩
end Go.Proofs.YtfefbnfmngdicaaDoor.PX
