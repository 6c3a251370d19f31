/- Plain laws of numbers and quoted strings: what Int reads of what Decimal writes, and the like. No program in sight. -/
import Derived.Test.YtfefbnfmngdicaaDoorPlain
import Derived.Lib.ItoaNum
import Derived.Lib.ItoaMem
import Derived.Lib.ParseIntBTie
namespace Go.Proofs.YtfefbnfmngdicaaDoor.PX
set_option linter.unusedVariables false
set_option linter.unusedSimpArgs false

theorem dec_small {u : Nat} (h : u < 10) : Lib.decDigits u = [UInt8.ofNat (48 + u)] := by rw [Lib.decDigits, dif_pos h]
theorem dec_big {u : Nat} (h : ¬ u < 10) : Lib.decDigits u = Lib.decDigits (u / 10) ++ [UInt8.ofNat (48 + u % 10)] := by rw [Lib.decDigits, dif_neg h]

theorem parse_digit (acc d : Nat) (rest : List UInt8) (hd : d < 10) (h : acc * 10 + d < 18446744073709551616) :
    Lib.parseUint10 acc (UInt8.ofNat (48 + d) :: rest) = Lib.parseUint10 (acc * 10 + d) rest := by
  have e : (UInt8.ofNat (48 + d)).toNat = 48 + d := by rw [UInt8.toNat_ofNat']; omega
  rw [Lib.parseUint10, e, if_pos (by omega), if_neg (by omega), if_neg (by omega), Nat.add_sub_cancel_left]

theorem parse_dec (u : Nat) : ∀ (acc : Nat) (rest : List UInt8), acc * 10 ^ (Lib.decDigits u).length + u < 18446744073709551616 →
    Lib.parseUint10 acc (Lib.decDigits u ++ rest) = Lib.parseUint10 (acc * 10 ^ (Lib.decDigits u).length + u) rest := by
  induction u using Nat.strongRecOn with
  | _ u ih =>
    intro acc rest h
    by_cases hu : u < 10
    · rw [dec_small hu] at h ⊢
      simp only [List.length_singleton, Nat.pow_one] at h ⊢
      exact parse_digit acc u rest hu h
    · rw [dec_big hu] at h ⊢
      simp only [List.length_append, List.length_singleton, Nat.pow_succ] at h ⊢
      have e : acc * (10 ^ (Lib.decDigits (u / 10)).length * 10) + u = (acc * 10 ^ (Lib.decDigits (u / 10)).length + u / 10) * 10 + u % 10 := by
        rw [← Nat.mul_assoc, Nat.add_mul]
        omega
      rw [e] at h ⊢
      rw [List.append_assoc, ih (u / 10) (by omega) acc _ (by omega)]
      exact parse_digit _ _ rest (Nat.mod_lt _ (by decide)) h

theorem dec_head (u : Nat) : ∃ c r, Lib.decDigits u = c :: r ∧ 48 ≤ c.toNat ∧ c.toNat ≤ 57 := by
  induction u using Nat.strongRecOn with
  | _ u ih =>
    by_cases hu : u < 10
    · rw [dec_small hu]
      have e : (UInt8.ofNat (48 + u)).toNat = 48 + u := by rw [UInt8.toNat_ofNat']; omega
      exact ⟨_, _, rfl, by omega, by omega⟩
    · obtain ⟨c, r, h, h1, h2⟩ := ih (u / 10) (by omega)
      rw [dec_big hu, h]
      exact ⟨c, _, rfl, h1, h2⟩

theorem mag_dec (u : Nat) (h : u < 18446744073709551616) : Lib.parseMag (Lib.decDigits u) = .ok u := by
  obtain ⟨c, r, e, _⟩ := dec_head u
  unfold Lib.parseMag
  rw [if_neg (by rw [e]; simp)]
  have := parse_dec u 0 [] (by omega)
  rw [List.append_nil] at this
  rw [this, Lib.parseUint10]
  congr 1
  omega

theorem parse_itoa (n : Int) (h0 : -9223372036854775808 ≤ n) (h1 : n ≤ 9223372036854775807) : Lib.parseIntB 64 (Lib.itoa n) = .ok n := by
  rw [Lib.parseIntB_64]
  by_cases hn : n < 0
  · unfold Lib.itoa
    rw [if_pos hn, Lib.atoiAll_minus, mag_dec _ (by omega)]
    simp only [Lib.signed]
    rw [if_neg (by omega)]
    congr 1
    omega
  · unfold Lib.itoa
    rw [if_neg hn]
    obtain ⟨c, r, e, hc⟩ := dec_head n.toNat
    rw [e, Lib.atoiAll_plain c r (by omega) (by omega), ← e, mag_dec _ (by omega)]
    simp only [Lib.signless]
    rw [if_neg (by omega)]
    congr 1
    omega

/-! ### Quoted strings -/
theorem hexD_lt (n : Nat) (h : n < 16) : ∀ m, m < 16 → hxB (hexD n) (hexD m) = UInt8.ofNat (16 * n + m) := by
  have e : ((List.range 16).all fun n => (List.range 16).all fun m => hxB (hexD n) (hexD m) == UInt8.ofNat (16 * n + m)) = true := by decide +kernel
  intro m hm
  have h1 := List.all_eq_true.1 e n (List.mem_range.2 h)
  have h2 := List.all_eq_true.1 h1 m (List.mem_range.2 hm)
  exact beq_iff_eq.1 h2

theorem unq_quoB (c : UInt8) (r : List UInt8) : unq (quoB c ++ r) = c :: unq r := by
  unfold quoB
  split
  · rename_i h
    show unq (92 :: c :: r) = _
    refine unq_d c r ?_ ?_
    · rintro rfl; simp at h
    · rintro rfl; simp at h
  · split
    · rename_i h
      show unq (92 :: 110 :: r) = _
      rw [unq_n, u8_eq h (by decide)]
      rfl
    · split
      · rename_i h0 _ _
        refine unq_plain c r ?_
        rintro rfl; simp at h0
      · show unq (92 :: 120 :: hexD (c.toNat / 16) :: hexD (c.toNat % 16) :: r) = _
        have hc := c.toNat_lt
        rw [unq_x, hexD_lt _ (by omega) _ (by omega), ← u8_eq (c := c) (n := 16 * (c.toNat / 16) + c.toNat % 16) (by omega) (by omega)]
theorem unq_flat (l : List UInt8) : unq (l.flatMap quoB) = l := by
  induction l with
  | nil => rfl
  | cons c l ih => rw [List.flatMap_cons, unq_quoB, ih]
theorem mid_quo (l : List UInt8) : (((quo l).drop 1).take ((quo l).length - 2)) = l.flatMap quoB := by
  unfold quo
  simp
end Go.Proofs.YtfefbnfmngdicaaDoor.PX
