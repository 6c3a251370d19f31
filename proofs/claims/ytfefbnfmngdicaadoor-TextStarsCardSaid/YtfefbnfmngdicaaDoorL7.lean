/- TextPlain: the printed law comes to true. -/
import Derived.Test.YtfefbnfmngdicaaDoorL6
namespace Go.Proofs.YtfefbnfmngdicaaDoor.PX
set_option linter.unusedVariables false
set_option linter.unusedSimpArgs false
open Go.RowKit Go.Proofs.YtfefbnfmngdicaaDoorW.PrintWords Go.Proofs.YtfefbnfmngdicaaDoorW.PrintLast Go.Proofs.YtfefbnfmngdicaaDoorW.PrintMore

theorem magic_step (p : ByteArray) (hp : p.size ≤ 1000000) : ∀ (d i k : Nat), p.size + 1 - i ≤ d → 2 * d + 2 ≤ k → i ≤ p.size + 1 → text_Magic.l0 k p (i : Int) = some (mg (p.data.toList.drop i)) := by
  intro d
  induction d using Nat.strongRecOn with
  | _ d ih =>
  intro i k hd hk hi0
  obtain ⟨k, rfl⟩ : ∃ m, k = m + 1 := ⟨k - 1, by omega⟩
  simp only [text_Magic.l0]
  by_cases hi : i < p.size
  · have hd0 : p.data.toList.drop i = p[i] :: p.data.toList.drop (i + 1) := by
      rw [List.drop_eq_getElem_cons (by rw [sz_toList]; exact hi), get_list p i hi]
    have hb0 := bt_nat p i hi
    rw [if_pos (by omega), if_pos (by omega), hb0]
    by_cases h92 : p[i] = 92
    · rw [if_pos (by rw [h92]; rfl), w64 (x := (i : Int) + 1) (by omega) (by omega), w64 (x := (i : Int) + 1 + 1) (by omega) (by omega)]
      have := ih (d - 2) (by omega) (i + 2) k (by omega) (by omega) (by omega)
      rw [show ((i + 2 : Nat) : Int) = (i : Int) + 1 + 1 from by omega] at this
      rw [this, mg_cons (p.data.toList.drop i) (by rw [hd0]; simp), hd0, h92]
      have e1 : mg1 (92 :: p.data.toList.drop (i + 1)) = false := rfl
      rw [e1, Bool.false_or]
      by_cases h1 : i + 1 < p.size
      · have hd1 : p.data.toList.drop (i + 1) = p[i + 1] :: p.data.toList.drop (i + 2) := by
          rw [List.drop_eq_getElem_cons (by rw [sz_toList]; exact h1), get_list p (i + 1) h1]
        rw [hd1]
        rfl
      · rw [List.drop_of_length_le (i := i + 1) (by rw [sz_toList]; omega), List.drop_of_length_le (i := i + 2) (by rw [sz_toList]; omega)]
        rfl
    · have n92 : ¬ (p[i].toNat : Int) = 92 := u8_ne (n := 92) h92 (by decide)
      rw [if_neg n92]
      have e42 : ((p[i].toNat : Int) = 42) ↔ p[i] = 42 := ⟨fun h => u8_eq (n := 42) (by omega) (by decide), fun h => by rw [h]; rfl⟩
      have e63 : ((p[i].toNat : Int) = 63) ↔ p[i] = 63 := ⟨fun h => u8_eq (n := 63) (by omega) (by decide), fun h => by rw [h]; rfl⟩
      have e91 : ((p[i].toNat : Int) = 91) ↔ p[i] = 91 := ⟨fun h => u8_eq (n := 91) (by omega) (by decide), fun h => by rw [h]; rfl⟩
      obtain ⟨k, rfl⟩ : ∃ m, k = m + 1 := ⟨k - 1, by omega⟩
      have hgo : text_Magic.l0 k p (wrap64 ((i : Int) + 1)) = some (mg (p.data.toList.drop (i + 1))) := by
        rw [w64 (x := (i : Int) + 1) (by omega) (by omega)]
        have := ih (d - 1) (by omega) (i + 1) k (by omega) (by omega) (by omega)
        rw [show ((i + 1 : Nat) : Int) = (i : Int) + 1 from by omega] at this
        exact this
      by_cases h42 : p[i] = 42
      · rw [if_pos (e42.2 h42)]
        simp only [text_Magic.j1]
        rw [if_pos trivial, mg_cons (p.data.toList.drop i) (by rw [hd0]; simp), hd0, h42]
        rfl
      · rw [if_neg (fun h => h42 (e42.1 h))]
        simp only [text_Magic.j1]
        by_cases h63 : p[i] = 63
        · rw [beq_iff_eq.2 (e63.2 h63), if_pos rfl, mg_cons (p.data.toList.drop i) (by rw [hd0]; simp), hd0, h63]
          rfl
        · rw [beq_eq_false_iff_ne.2 (fun h => h63 (e63.1 h)), if_neg (by decide), if_pos (by omega), if_pos (by omega), hb0]
          by_cases h91 : p[i] = 91
          · rw [if_pos (e91.2 h91), class_eq k p i hp hi (by omega)]
            simp only [Option.bind_some]
            rw [mg_cons (p.data.toList.drop i) (by rw [hd0]; simp), hd0, h91]
            unfold clsR
            cases hc : cls (p.data.toList.drop (i + 1)) with
            | none =>
              simp only
              rw [if_neg (by decide), hgo, part1_none _ hc]
              have : mg1 (91 :: p.data.toList.drop (i + 1)) = false := by simp [mg1, hc]
              rw [this, Bool.false_or]
              rfl
            | some x =>
              obtain ⟨n, neg, set⟩ := x
              simp only
              have : mg1 (91 :: p.data.toList.drop (i + 1)) = true := by simp [mg1, hc]
              rw [if_pos trivial, this, Bool.true_or]
          · rw [if_neg (fun h => h91 (e91.1 h)), hgo, mg_cons (p.data.toList.drop i) (by rw [hd0]; simp), hd0, part1_byte _ _ h92 h42 h63 h91]
            have : mg1 (p[i] :: p.data.toList.drop (i + 1)) = false := by simp [mg1, h42, h63, h91]
            rw [this, Bool.false_or]
            rfl
  · rw [if_neg (by omega), List.drop_of_length_le (by rw [sz_toList]; omega), mg_nil]
theorem magic_eq (k : Nat) (p : ByteArray) (hp : p.size ≤ 1000000) (hk : 2 * p.size + 4 ≤ k) : text_Magic.f k p = some (mg p.data.toList) := by
  have := magic_step p hp (p.size + 1) 0 k (by omega) (by omega) (by omega)
  simpa [text_Magic.f] using this

theorem partT_len (l : List UInt8) : (partT l).length ≤ (part1 l).2 := by
  unfold partT
  split
  · have := part1_pos l
    simp only [List.length_take, List.length_drop]
    omega
  · rw [List.length_take]
    exact Nat.min_le_left _ _
theorem pln_lenF : ∀ (k : Nat) (l : List UInt8), l.length ≤ k → (pln l).length ≤ l.length
  | 0, l, hk => by
    have : l = [] := List.eq_nil_of_length_eq_zero (by omega)
    subst this
    exact Nat.le_refl _
  | k + 1, l, hk => by
    by_cases h : l = []
    · subst h; exact Nat.le_refl _
    · have h1 := part1_pos l
      have h2 := part1_le l h
      have h3 := partT_len l
      have h4 := pln_lenF k (l.drop (part1 l).2) (by rw [List.length_drop]; omega)
      rw [List.length_drop] at h4
      rw [pln_cons l h, List.length_append]
      omega
theorem pln_len (l : List UInt8) : (pln l).length ≤ l.length := pln_lenF l.length l (Nat.le_refl _)
theorem pat_eq (p s : ByteArray) (hp : p.size ≤ 1000000) (hs : s.size ≤ 1000000) : text_Pattern.f p s = some (mt (pts p.data.toList) s.data.toList) := if_pos ⟨hp, hs⟩
theorem pln_eq (p : ByteArray) (hp : p.size ≤ 1000000) : text_Plain.f p = some ⟨(pln p.data.toList).toArray⟩ := if_pos hp

theorem TextPlain_pure (a0 a1 : ByteArray) : erratalaw02_TextPlain.f 2000 a0 a1 = some true := by
  unfold erratalaw02_TextPlain.f
  rw [small_true 2000 (by decide)]
  simp only [Option.bind_some]
  by_cases h0 : a0.size ≤ 100
  · rw [if_neg (by omega)]
    by_cases h1 : a1.size ≤ 300
    · rw [decide_eq_false (show ¬ (a1.size : Int) > 300 by omega), show (2000 : Nat) = 1999 + 1 from rfl]
      simp only [erratalaw02_TextPlain.j0]
      have he : text_Escape.f a1 = some ⟨(esc a1.data.toList).toArray⟩ := if_pos (by omega)
      have hel : (⟨(esc a1.data.toList).toArray⟩ : ByteArray).size ≤ 600 := by
        rw [mk_size]
        have := esc_len a1.data.toList
        rw [sz_toList] at this
        omega
      have fin : erratalaw02_TextPlain.j1 1999 a1 true ⟨(esc a1.data.toList).toArray⟩ false = some true := by
        rw [show (1999 : Nat) = 1998 + 1 from rfl]
        simp only [erratalaw02_TextPlain.j1]
        rw [if_neg (by decide), if_pos trivial, magic_eq _ _ (by omega) (by omega)]
        simp only [Option.bind_some]
        rw [(esc_all a1.data.toList).2.1, if_neg (by decide), pln_eq _ (by omega)]
        simp only [Option.bind_some]
        rw [(esc_all a1.data.toList).2.2, ba_mk, if_pos rfl, pat_eq _ _ (by omega) (by omega)]
        simp only [Option.bind_some]
        rw [esc_mt]
      rw [if_neg (by decide), he]
      simp only [Option.bind_some]
      rw [magic_eq _ _ (by omega) (by omega)]
      simp only [Option.bind_some]
      cases hm : mg a0.data.toList with
      | true => rw [if_pos rfl, fin]
      | false =>
        have hpl : (⟨(pln a0.data.toList).toArray⟩ : ByteArray).size ≤ 1000000 := by
          rw [mk_size]
          have := pln_len a0.data.toList
          rw [sz_toList] at this
          omega
        rw [if_neg (by decide), pln_eq _ (by omega)]
        simp only [Option.bind_some]
        rw [pat_eq _ _ (by omega) hpl]
        simp only [Option.bind_some]
        rw [plain_mt _ _ hm, beq_self_eq_true, if_pos rfl, pat_eq _ _ (by omega) (by omega)]
        simp only [Option.bind_some]
        rw [plain_mt _ _ hm, tl, tl, bne_self_eq_false, fin]
    · rw [decide_eq_true (show (a1.size : Int) > 300 by omega), show (2000 : Nat) = 1999 + 1 from rfl]
      simp only [erratalaw02_TextPlain.j0]
      rw [if_pos trivial]
  · rw [if_pos (by omega), show (2000 : Nat) = 1999 + 1 from rfl]
    simp only [erratalaw02_TextPlain.j0]
    rw [if_pos trivial]
theorem TextPlain_ex (a0 a1 : ByteArray) (w0 : a0.size ≤ 140737488351232) (w1 : a1.size ≤ 140737488351232) : ∃ k, erratalaw02_TextPlain.f k a0 a1 = some true := ⟨_, TextPlain_pure a0 a1⟩
end Go.Proofs.YtfefbnfmngdicaaDoor.PX
