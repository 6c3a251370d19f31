/- Laws of the lexer, plainly: unfolding, lines, counts, joining with a line feed, white bytes behind. -/
import Derived.Test.YtfefbnfmngdicaaDoorX9
import Derived.Test.YtfefbnfmngdicaaDoorL1
namespace Go.Proofs.YtfefbnfmngdicaaDoor.PX
set_option linter.unusedVariables false
set_option linter.unusedSimpArgs false

def lexN (l : List UInt8) (ln : Int) (c : Nat) : Except (Int × Int) (List S43) := lexG (l.length + 1) l ln c
def mapOk (f : List S43 → List S43) : Except (Int × Int) (List S43) → Except (Int × Int) (List S43)
  | .error x => .error x
  | .ok us => .ok (f us)
theorem lexA_N (l : List UInt8) (ln : Int) : lexA l ln [] = match lexN l ln 0 with | .error (e, n) => ([], e, n) | .ok us => (us, 0, 0) := by
  unfold lexA lexN
  rw [List.length_nil]
  cases lexG (l.length + 1) l ln 0 <;> rfl
theorem lexN_full (l : List UInt8) (ln : Int) (c : Nat) (h : 3000 ≤ c) : lexN l ln c = .error (6, ln) := by
  unfold lexN lexG
  rw [if_pos h]
theorem lexN_end (l : List UInt8) (ln : Int) (c : Nat) (h : ¬ 3000 ≤ c) (hs : skp l = []) : lexN l ln c = .ok [⟨5, bs [], 0, ln⟩] := by
  unfold lexN lexG
  rw [if_neg h, hs]
theorem lexN_err (l : List UInt8) (ln : Int) (c : Nat) (h : ¬ 3000 ≤ c) (d : UInt8) (r : List UInt8) (hs : skp l = d :: r) (e : Int) (ht : tokF (d :: r) = .error e) : lexN l ln c = .error (e, ln) := by
  unfold lexN lexG
  rw [if_neg h, hs]
  simp only [ht]
theorem lexN_tok (l : List UInt8) (ln : Int) (c : Nat) (h : ¬ 3000 ≤ c) (d : UInt8) (r : List UInt8) (hs : skp l = d :: r) (kd : Int) (t : List UInt8) (m : Int) (n : Nat) (ht : tokF (d :: r) = .ok (kd, t, m, n)) :
    lexN l ln c = mapOk (fun us => ⟨kd, bs t, m, ln⟩ :: us) (lexN ((d :: r).drop n) (if kd = 4 then ln + 1 else ln) (c + 1)) := by
  have hl := skp_le l
  rw [hs] at hl
  have hn := tokF_pos ht
  have hc : (d :: r).length = r.length + 1 := rfl
  unfold lexN
  conv => lhs; unfold lexG
  rw [if_neg h, hs]
  simp only [ht]
  rw [lexG_eq l.length (((d :: r).drop n).length + 1) _ _ _ (by rw [List.length_drop]; omega) (by omega)]
  cases lexG (((d :: r).drop n).length + 1) ((d :: r).drop n) (if kd = 4 then ln + 1 else ln) (c + 1) <;> rfl
theorem lexN_cases (l : List UInt8) (ln : Int) (c : Nat) :
    (3000 ≤ c ∧ lexN l ln c = .error (6, ln)) ∨ (¬ 3000 ≤ c ∧ skp l = [] ∧ lexN l ln c = .ok [⟨5, bs [], 0, ln⟩]) ∨
    (∃ d r e, ¬ 3000 ≤ c ∧ skp l = d :: r ∧ tokF (d :: r) = .error e ∧ lexN l ln c = .error (e, ln)) ∨
    (∃ d r kd t m n, ¬ 3000 ≤ c ∧ skp l = d :: r ∧ tokF (d :: r) = .ok (kd, t, m, n) ∧ 1 ≤ n ∧ n ≤ (d :: r).length ∧ (d :: r).length ≤ l.length ∧
      lexN l ln c = mapOk (fun us => ⟨kd, bs t, m, ln⟩ :: us) (lexN ((d :: r).drop n) (if kd = 4 then ln + 1 else ln) (c + 1))) := by
  by_cases h : 3000 ≤ c
  · exact .inl ⟨h, lexN_full l ln c h⟩
  · rcases hs : skp l with _ | ⟨d, r⟩
    · exact .inr (.inl ⟨h, rfl, lexN_end l ln c h hs⟩)
    · have hl := skp_le l
      rw [hs] at hl
      rcases ht : tokF (d :: r) with e | ⟨kd, t, m, n⟩
      · exact .inr (.inr (.inl ⟨d, r, e, h, rfl, ht, lexN_err l ln c h d r hs e ht⟩))
      · exact .inr (.inr (.inr ⟨d, r, kd, t, m, n, h, rfl, ht, tokF_pos ht, (tokF_in ht).1, hl, lexN_tok l ln c h d r hs kd t m n ht⟩))
theorem lexN_skp (l l' : List UInt8) (ln : Int) (c : Nat) (h : skp l = skp l') : lexN l ln c = lexN l' ln c := by
  rcases lexN_cases l ln c with ⟨h1, h2⟩ | ⟨h1, h2, h3⟩ | ⟨d, r, e, h1, h2, h3, h4⟩ | ⟨d, r, kd, t, m, n, h1, h2, h3, _, _, _, h4⟩
  · rw [h2, lexN_full l' ln c h1]
  · rw [h3, lexN_end l' ln c h1 (by rw [← h, h2])]
  · rw [h4, lexN_err l' ln c h1 d r (by rw [← h, h2]) e h3]
  · rw [h4, lexN_tok l' ln c h1 d r (by rw [← h, h2]) kd t m n h3]
/-- A token on a later line. -/
def shS (d : Int) (u : S43) : S43 := ⟨u.f0, u.f1, u.f2, u.f3 + d⟩
def shE (d : Int) : Except (Int × Int) (List S43) → Except (Int × Int) (List S43)
  | .error (e, n) => .error (e, n + d)
  | .ok us => .ok (us.map (shS d))
theorem lexN_shift (d : Int) : ∀ (k : Nat) (l : List UInt8) (ln : Int) (c : Nat), l.length < k → lexN l (ln + d) c = shE d (lexN l ln c)
  | 0, _, _, _, h => absurd h (Nat.not_lt_zero _)
  | k + 1, l, ln, c, h => by
    rcases lexN_cases l ln c with ⟨h1, h2⟩ | ⟨h1, h2, h3⟩ | ⟨a, r, e, h1, h2, h3, h4⟩ | ⟨a, r, kd, t, m, n, h1, h2, h3, hn, hn2, hl, h4⟩
    · rw [h2, lexN_full l _ c h1]; rfl
    · rw [h3, lexN_end l _ c h1 h2]; rfl
    · rw [h4, lexN_err l _ c h1 a r h2 e h3]; rfl
    · have ih := lexN_shift d k ((a :: r).drop n) (if kd = 4 then ln + 1 else ln) (c + 1) (by rw [List.length_drop]; omega)
      rw [h4, lexN_tok l _ c h1 a r h2 kd t m n h3, show (if kd = 4 then ln + d + 1 else ln + d) = (if kd = 4 then ln + 1 else ln) + d by split <;> omega, ih]
      rcases lexN ((a :: r).drop n) (if kd = 4 then ln + 1 else ln) (c + 1) with ⟨e, q⟩ | us <;> rfl
theorem lexN_count : ∀ (k : Nat) (l : List UInt8) (ln : Int) (c : Nat) (us : List S43), l.length < k → lexN l ln c = .ok us → us.length ≤ l.length + 1 ∧ c + us.length ≤ 3000 ∧ 1 ≤ us.length
  | 0, _, _, _, _, h, _ => absurd h (Nat.not_lt_zero _)
  | k + 1, l, ln, c, us, h, hu => by
    rcases lexN_cases l ln c with ⟨h1, h2⟩ | ⟨h1, h2, h3⟩ | ⟨a, r, e, h1, h2, h3, h4⟩ | ⟨a, r, kd, t, m, n, h1, h2, h3, hn, hn2, hl, h4⟩
    · rw [h2] at hu; cases hu
    · rw [h3] at hu
      injection hu with hu
      subst hu
      rw [List.length_singleton]
      omega
    · rw [h4] at hu; cases hu
    · rw [h4] at hu
      rcases hv : lexN ((a :: r).drop n) (if kd = 4 then ln + 1 else ln) (c + 1) with x | vs
      · rw [hv] at hu; cases hu
      · rw [hv] at hu
        injection hu with hu
        subst hu
        have ih := lexN_count k _ _ _ vs (by rw [List.length_drop]; omega) hv
        rw [List.length_drop] at ih
        rw [List.length_cons]
        omega
theorem lexN_lines : ∀ (k : Nat) (l : List UInt8) (ln : Int) (c : Nat) (us : List S43), l.length < k → lexN l ln c = .ok us → ∀ u ∈ us, ln ≤ u.f3 ∧ u.f3 ≤ ln + l.length
  | 0, _, _, _, _, h, _ => absurd h (Nat.not_lt_zero _)
  | k + 1, l, ln, c, us, h, hu => by
    rcases lexN_cases l ln c with ⟨h1, h2⟩ | ⟨h1, h2, h3⟩ | ⟨a, r, e, h1, h2, h3, h4⟩ | ⟨a, r, kd, t, m, n, h1, h2, h3, hn, hn2, hl, h4⟩
    · rw [h2] at hu; cases hu
    · rw [h3] at hu
      injection hu with hu
      subst hu
      intro u hu
      rw [List.mem_singleton.1 hu]
      show ln ≤ ln ∧ ln ≤ ln + _
      omega
    · rw [h4] at hu; cases hu
    · rw [h4] at hu
      rcases hv : lexN ((a :: r).drop n) (if kd = 4 then ln + 1 else ln) (c + 1) with x | vs
      · rw [hv] at hu; cases hu
      · rw [hv] at hu
        injection hu with hu
        subst hu
        have ih := lexN_lines k _ _ _ vs (by rw [List.length_drop]; omega) hv
        rw [List.length_drop] at ih
        intro u hu
        rcases List.mem_cons.1 hu with rfl | hu
        · show ln ≤ ln ∧ ln ≤ ln + _
          omega
        · have := ih u hu
          split at this <;> omega
theorem lexN_errline : ∀ (k : Nat) (l : List UInt8) (ln : Int) (c : Nat) (e n : Int), l.length < k → lexN l ln c = .error (e, n) → ln ≤ n ∧ n ≤ ln + l.length ∧ (e = 6 ∨ e = 11 ∨ e = 3)
  | 0, _, _, _, _, _, h, _ => absurd h (Nat.not_lt_zero _)
  | k + 1, l, ln, c, e, q, h, hu => by
    rcases lexN_cases l ln c with ⟨h1, h2⟩ | ⟨h1, h2, h3⟩ | ⟨a, r, e', h1, h2, h3, h4⟩ | ⟨a, r, kd, t, m, n, h1, h2, h3, hn, hn2, hl, h4⟩
    · rw [h2] at hu
      injection hu with hu
      injection hu with hu1 hu2
      omega
    · rw [h3] at hu; cases hu
    · rw [h4] at hu
      injection hu with hu
      injection hu with hu1 hu2
      have := tokF_err h3
      omega
    · rw [h4] at hu
      rcases hv : lexN ((a :: r).drop n) (if kd = 4 then ln + 1 else ln) (c + 1) with ⟨e', q'⟩ | vs
      · rw [hv] at hu
        injection hu with hu
        injection hu with hu1 hu2
        subst hu1 hu2
        have ih := lexN_errline k _ _ _ _ _ (by rw [List.length_drop]; omega) hv
        rw [List.length_drop] at ih
        split at ih <;> omega
      · rw [hv] at hu; cases hu
theorem lexN_sameC : ∀ (k : Nat) (l : List UInt8) (ln : Int) (c c' : Nat), l.length < k → c + l.length + 1 ≤ 3000 → c' + l.length + 1 ≤ 3000 → lexN l ln c = lexN l ln c'
  | 0, _, _, _, _, h, _, _ => absurd h (Nat.not_lt_zero _)
  | k + 1, l, ln, c, c', h, hc, hc' => by
    rcases lexN_cases l ln c with ⟨h1, h2⟩ | ⟨h1, h2, h3⟩ | ⟨a, r, e, h1, h2, h3, h4⟩ | ⟨a, r, kd, t, m, n, h1, h2, h3, hn, hn2, hl, h4⟩
    · omega
    · rw [h3, lexN_end l ln c' (by omega) h2]
    · rw [h4, lexN_err l ln c' (by omega) a r h2 e h3]
    · have ih := lexN_sameC k ((a :: r).drop n) (if kd = 4 then ln + 1 else ln) (c + 1) (c' + 1) (by rw [List.length_drop]; omega) (by rw [List.length_drop]; omega) (by rw [List.length_drop]; omega)
      rw [h4, lexN_tok l ln c' (by omega) a r h2 kd t m n h3, ih]
/-- The last token is the end; ahead of it there is none. -/
theorem lexN_last : ∀ (k : Nat) (l : List UInt8) (ln : Int) (c : Nat) (us : List S43), l.length < k → lexN l ln c = .ok us → ∃ us0 l', us = us0 ++ [(⟨5, bs [], 0, l'⟩ : S43)] ∧ ∀ u ∈ us0, 0 ≤ u.f0 ∧ u.f0 ≤ 4
  | 0, _, _, _, _, h, _ => absurd h (Nat.not_lt_zero _)
  | k + 1, l, ln, c, us, h, hu => by
    rcases lexN_cases l ln c with ⟨h1, h2⟩ | ⟨h1, h2, h3⟩ | ⟨a, r, e, h1, h2, h3, h4⟩ | ⟨a, r, kd, t, m, n, h1, h2, h3, hn, hn2, hl, h4⟩
    · rw [h2] at hu; cases hu
    · rw [h3] at hu
      injection hu with hu
      subst hu
      exact ⟨[], ln, rfl, fun _ h => by cases h⟩
    · rw [h4] at hu; cases hu
    · rw [h4] at hu
      rcases hv : lexN ((a :: r).drop n) (if kd = 4 then ln + 1 else ln) (c + 1) with x | vs
      · rw [hv] at hu; cases hu
      · rw [hv] at hu
        injection hu with hu
        subst hu
        obtain ⟨us0, l', rfl, h5⟩ := lexN_last k _ _ _ vs (by rw [List.length_drop]; omega) hv
        refine ⟨_ :: us0, l', rfl, fun u hu => ?_⟩
        rcases List.mem_cons.1 hu with rfl | hu
        · exact (tokF_in h3).2
        · exact h5 u hu

/-! ### What stands behind a token -/
theorem wn_app (x : UInt8) (s : List UInt8) (hx : ptI (x.toNat : Int) = false) : ∀ l : List UInt8, wn (l ++ x :: s) = wn l
  | [] => wn_cons_f x s hx
  | c :: r => by
    have ih := wn_app x s hx r
    cases hp : ptI (c.toNat : Int) with
    | true => rw [List.cons_append, wn_cons_t _ _ hp, wn_cons_t _ _ hp, ih]
    | false => rw [List.cons_append, wn_cons_f _ _ hp, wn_cons_f _ _ hp]
theorem qz_app (s : List UInt8) : ∀ (k : Nat) (l : List UInt8), l.length < k → qz l < l.length → qz (l ++ s) = qz l
  | 0, _, h, _ => absurd h (Nat.not_lt_zero _)
  | k + 1, [], _, h => absurd h (Nat.not_lt_zero _)
  | k + 1, c :: r, hk, h => by
    rw [List.length_cons] at hk h
    by_cases h1 : c = 34
    · rw [qz_stop (c :: r) (.inr (by simp [h1])), qz_stop (c :: r ++ s) (.inr (by simp [h1]))]
    · by_cases h2 : c = 92
      · subst h2
        rw [qz_esc] at h ⊢
        rw [List.cons_append, qz_esc]
        cases r with
        | nil => simp only [List.length_nil] at h; omega
        | cons d r =>
          simp only [List.cons_append, List.drop_succ_cons, List.drop_zero, List.length_cons] at h hk ⊢
          rw [qz_app s k r (by omega) (by omega)]
      · rw [qz_one c r h1 h2] at h ⊢
        rw [List.cons_append, qz_one c _ h1 h2, qz_app s k r (by omega) (by omega)]
theorem pre_app (x : UInt8) (s : List UInt8) (hx : x ≠ 61) (hx2 : x ≠ 43) (d : UInt8) (r : List UInt8) : ∀ o ∈ opl, o.isPrefixOf ((d :: r) ++ x :: s) = o.isPrefixOf (d :: r) := by
  intro o ho
  have h : (∃ a, o = [a]) ∨ (∃ a b, o = [a, b] ∧ (b = 61 ∨ b = 43)) := by
    have : ∀ o ∈ opl, (o.length = 1) ∨ (o.length = 2 ∧ (o.getD 1 0 = 61 ∨ o.getD 1 0 = 43)) := by decide
    rcases this o ho with h | ⟨h, h2⟩
    · match o, h with
      | [a], _ => exact .inl ⟨a, rfl⟩
    · match o, h, h2 with
      | [a, b], _, h2 => exact .inr ⟨a, b, rfl, h2⟩
  rcases h with ⟨a, rfl⟩ | ⟨a, b, rfl, hb⟩
  · rfl
  · cases r with
    | cons e r => rfl
    | nil =>
      show (a == d && (b == x && true)) = (a == d && false)
      have : (b == x) = false := by
        rw [beq_eq_false_iff_ne]
        rintro rfl
        rcases hb with hb | hb
        · exact hx hb
        · exact hx2 hb
      rw [this]
      rfl
theorem opF_app (l l' : List UInt8) : ∀ ops : List (List UInt8), (∀ o ∈ ops, o.isPrefixOf l' = o.isPrefixOf l) → opF ops l' = opF ops l
  | [], _ => rfl
  | o :: ops, h => by
    unfold opF
    rw [h o List.mem_cons_self, opF_app l l' ops (fun o ho => h o (List.mem_cons_of_mem _ ho))]
/-- A token is the same whatever stands behind it, from a white byte or a line feed on. -/
theorem tok_app (x : UInt8) (s : List UInt8) (hx : ptI (x.toNat : Int) = false) (h61 : x ≠ 61) (h43 : x ≠ 43) (d : UInt8) (r : List UInt8) (v : Int × List UInt8 × Int × Nat) (h : tokF (d :: r) = .ok v) : tokF ((d :: r) ++ x :: s) = .ok v := by
  rw [← h, List.cons_append]
  unfold tokF
  simp only
  by_cases hp : ptI (d.toNat : Int) = true
  · rw [if_pos hp, if_pos hp, ← List.cons_append, wn_app x s hx, List.take_append_of_le_length (wn_le _)]
  · rw [if_neg hp, if_neg hp]
    by_cases h34 : d = 34
    · rw [if_pos h34, if_pos h34]
      unfold tokF at h
      simp only at h
      rw [if_neg hp, if_pos h34] at h
      have hq : qz r + 1 < (d :: r).length := by
        unfold qtL at h
        split at h
        · cases h
        · rename_i hh
          split at hh
          · rename_i hc; exact hc
          · cases hh
      rw [List.length_cons] at hq
      have hqa := qz_app (x :: s) (r.length + 1) r (by omega) (by omega)
      have hT : List.take (qz r + 2) (d :: (r ++ x :: s)) = List.take (qz r + 2) (d :: r) := by rw [← List.cons_append, List.take_append_of_le_length (by rw [List.length_cons]; omega)]
      have e : qtL (d :: (r ++ x :: s)) = qtL (d :: r) := by
        unfold qtL
        simp only [List.drop_succ_cons, List.drop_zero, List.length_cons, List.length_append]
        rw [hqa, hT, List.take_append_of_le_length (show qz r ≤ r.length by omega), if_pos (show qz r + 1 < r.length + (s.length + 1) + 1 by omega), if_pos (show qz r + 1 < r.length + 1 by omega)]
      rw [e]
    · rw [if_neg h34, if_neg h34]
      by_cases h10 : d = 10
      · rw [if_pos h10, if_pos h10]
      · rw [if_neg h10, if_neg h10, ← List.cons_append, opF_app (d :: r) _ opl (pre_app x s h61 h43 d r)]

/-! ### White bytes and comments -/
theorem lfAt_cons (c : UInt8) (r : List UInt8) : lfAt (c :: r) = if c = 10 then 0 else lfAt r + 1 := rfl
theorem lfAt_app (s : List UInt8) : ∀ l : List UInt8, lfAt (l ++ s) = if lfAt l < l.length then lfAt l else l.length + lfAt s
  | [] => by rw [List.nil_append, List.length_nil, if_neg (Nat.not_lt_zero _), Nat.zero_add]
  | c :: r => by
    have ih := lfAt_app s r
    rw [List.cons_append, lfAt_cons, lfAt_cons]
    by_cases h : c = 10
    · rw [if_pos h, if_pos h, if_pos (by rw [List.length_cons]; omega)]
    · rw [if_neg h, if_neg h, ih, List.length_cons]
      by_cases hl : lfAt r < r.length
      · rw [if_pos hl, if_pos (show lfAt r + 1 < r.length + 1 by omega)]
      · rw [if_neg hl, if_neg (show ¬ lfAt r + 1 < r.length + 1 by omega)]; omega
/-- With a line feed behind. -/
theorem skp_lf (s : List UInt8) : ∀ (k : Nat) (l : List UInt8), l.length < k → skp (l ++ 10 :: s) = skp l ++ 10 :: s
  | 0, _, h => absurd h (Nat.not_lt_zero _)
  | k + 1, [], _ => skp_other 10 s (by decide) (by decide)
  | k + 1, c :: r, h => by
    rw [List.length_cons] at h
    by_cases hw : c = 32 ∨ c = 9 ∨ c = 13
    · rw [List.cons_append, skp_white _ _ hw, skp_white _ _ hw, skp_lf s k r (by omega)]
    · by_cases h35 : c = 35
      · subst h35
        have e := lfAt_app (10 :: s) (35 :: r)
        have e10 : lfAt (10 :: s) = 0 := if_pos rfl
        have eh := lfAt_hash r
        have hle := lfAt_le r
        rw [List.length_cons, e10, Nat.add_zero] at e
        have e' : lfAt (35 :: (r ++ 10 :: s)) = lfAt (35 :: r) := by
          rw [← List.cons_append, e]
          split <;> omega
        rw [List.cons_append, skp_hash, skp_hash, e', ← List.cons_append, List.drop_append_of_le_length (by rw [List.length_cons]; omega), skp_lf s k _ (by rw [List.length_drop, List.length_cons]; omega)]
      · rw [List.cons_append, skp_other _ _ hw h35, skp_other _ _ hw h35, List.cons_append]
/-- With something behind that is skipped, and holds no line feed. -/
theorem skp_tail (s : List UInt8) (hs : skp s = []) (hn : lfAt s = s.length) : ∀ (k : Nat) (l : List UInt8), l.length < k → skp (l ++ s) = if skp l = [] then [] else skp l ++ s
  | 0, _, h => absurd h (Nat.not_lt_zero _)
  | k + 1, [], _ => by rw [List.nil_append, hs, if_pos skp_nil]
  | k + 1, c :: r, h => by
    rw [List.length_cons] at h
    by_cases hw : c = 32 ∨ c = 9 ∨ c = 13
    · rw [List.cons_append, skp_white _ _ hw, skp_white _ _ hw, skp_tail s hs hn k r (by omega)]
    · by_cases h35 : c = 35
      · subst h35
        have e := lfAt_app s (35 :: r)
        have eh := lfAt_hash r
        have hle := lfAt_le r
        rw [List.length_cons, hn, List.cons_append] at e
        by_cases hl : lfAt (35 :: r) < r.length + 1
        · rw [if_pos hl] at e
          rw [List.cons_append, skp_hash, skp_hash, e, ← List.cons_append, List.drop_append_of_le_length (by rw [List.length_cons]; omega), skp_tail s hs hn k _ (by rw [List.length_drop, List.length_cons]; omega)]
        · rw [if_neg hl] at e
          rw [List.cons_append, skp_hash, skp_hash, e, List.drop_of_length_le (by rw [List.length_cons, List.length_append]; omega), List.drop_of_length_le (by rw [List.length_cons]; omega), skp_nil, if_pos rfl]
      · rw [List.cons_append, skp_other _ _ hw h35, skp_other _ _ hw h35, if_neg (by intro h; cases h), List.cons_append]

/-! ### Joining -/
theorem ptI10 : ptI ((10 : UInt8).toNat : Int) = false := by decide
theorem ptI32 : ptI ((32 : UInt8).toNat : Int) = false := by decide
theorem tok10 (s : List UInt8) : tokF (10 :: s) = .ok (4, [], 0, 1) := by
  unfold tokF
  simp only
  rw [if_neg (by rw [ptI10]; decide), if_neg (by decide), if_pos trivial]
theorem lexN_join (b : List UInt8) : ∀ (k : Nat) (a : List UInt8) (ln : Int) (c : Nat) (us : List S43), a.length < k → lexN a ln c = .ok us →
    ∃ us0 l', us = us0 ++ [(⟨5, bs [], 0, l'⟩ : S43)] ∧ lexN (a ++ 10 :: b) ln c = mapOk (fun vs => us0 ++ (⟨4, bs [], 0, l'⟩ : S43) :: vs) (lexN b (l' + 1) (c + us.length))
  | 0, _, _, _, _, h, _ => absurd h (Nat.not_lt_zero _)
  | k + 1, l, ln, c, us, h, hu => by
    have hsk := skp_lf b (l.length + 1) l (by omega)
    rcases lexN_cases l ln c with ⟨h1, h2⟩ | ⟨h1, h2, h3⟩ | ⟨a, r, e, h1, h2, h3, h4⟩ | ⟨a, r, kd, t, m, n, h1, h2, h3, hn, hn2, hl, h4⟩
    · rw [h2] at hu; cases hu
    · rw [h3] at hu
      injection hu with hu
      subst hu
      rw [h2, List.nil_append] at hsk
      refine ⟨[], ln, rfl, ?_⟩
      rw [lexN_tok _ ln c h1 10 b hsk 4 [] 0 1 (tok10 b), if_pos rfl]
      rfl
    · rw [h4] at hu; cases hu
    · rw [h4] at hu
      rcases hv : lexN ((a :: r).drop n) (if kd = 4 then ln + 1 else ln) (c + 1) with x | vs
      · rw [hv] at hu; cases hu
      · rw [hv] at hu
        injection hu with hu
        subst hu
        obtain ⟨us0, l', rfl, h5⟩ := lexN_join b k _ _ _ vs (by rw [List.length_drop]; omega) hv
        refine ⟨(⟨kd, bs t, m, ln⟩ : S43) :: us0, l', rfl, ?_⟩
        rw [h2] at hsk
        rw [lexN_tok _ ln c h1 a (r ++ 10 :: b) hsk kd t m n (tok_app 10 b ptI10 (by decide) (by decide) a r _ h3), ← List.cons_append, List.drop_append_of_le_length hn2, h5, List.length_cons, show c + 1 + (us0 ++ [(⟨5, bs [], 0, l'⟩ : S43)]).length = c + ((us0 ++ [(⟨5, bs [], 0, l'⟩ : S43)]).length + 1) by omega]
        rcases lexN b (l' + 1) (c + ((us0 ++ [(⟨5, bs [], 0, l'⟩ : S43)]).length + 1)) with x | ws <;> rfl
theorem lexN_tail (s : List UInt8) (hs : skp (32 :: s) = []) (hn : lfAt (32 :: s) = (32 :: s).length) : ∀ (k : Nat) (a : List UInt8) (ln : Int) (c : Nat) (us : List S43), a.length < k → lexN a ln c = .ok us → lexN (a ++ 32 :: s) ln c = .ok us
  | 0, _, _, _, _, h, _ => absurd h (Nat.not_lt_zero _)
  | k + 1, l, ln, c, us, h, hu => by
    have hsk := skp_tail (32 :: s) hs hn (l.length + 1) l (by omega)
    rcases lexN_cases l ln c with ⟨h1, h2⟩ | ⟨h1, h2, h3⟩ | ⟨a, r, e, h1, h2, h3, h4⟩ | ⟨a, r, kd, t, m, n, h1, h2, h3, hn1, hn2, hl, h4⟩
    · rw [h2] at hu; cases hu
    · rw [h3] at hu
      rw [h2, if_pos rfl] at hsk
      rw [lexN_end _ ln c h1 hsk, hu]
    · rw [h4] at hu; cases hu
    · rw [h2, if_neg (by intro h; cases h)] at hsk
      rw [← hu, h4, lexN_tok _ ln c h1 a (r ++ 32 :: s) hsk kd t m n (tok_app 32 s ptI32 (by decide) (by decide) a r _ h3), ← List.cons_append, List.drop_append_of_le_length hn2]
      rcases hv : lexN ((a :: r).drop n) (if kd = 4 then ln + 1 else ln) (c + 1) with x | vs
      · rw [h4, hv] at hu; cases hu
      · rw [lexN_tail s hs hn k _ _ _ vs (by rw [List.length_drop]; omega) hv]
end Go.Proofs.YtfefbnfmngdicaaDoor.PX

/- Tokens that stand alone: names, decimals, quoted strings, operators. -/
namespace Go.Proofs.YtfefbnfmngdicaaDoor.PX
set_option linter.unusedVariables false
set_option linter.unusedSimpArgs false

theorem ptX (c : UInt8) : ptI (c.toNat : Int) = !nmX (c.toNat : Int) := by
  have e := all_u8 (fun c => ptI (c.toNat : Int) == !nmX (c.toNat : Int)) (by decide +kernel) c
  exact beq_iff_eq.1 e
theorem ptDig (c : UInt8) (h : digI (c.toNat : Int) = true) : ptI (c.toNat : Int) = true := by
  have e := all_u8 (fun c => !digI (c.toNat : Int) || ptI (c.toNat : Int)) (by decide +kernel) c
  simp only [h, Bool.not_true, Bool.false_or] at e
  exact e
theorem pt_not (c : UInt8) (h : ptI (c.toNat : Int) = true) : ¬ (c = 32 ∨ c = 9 ∨ c = 13) ∧ c ≠ 35 := by
  have e := all_u8 (fun c => !ptI (c.toNat : Int) || (decide (¬ (c = 32 ∨ c = 9 ∨ c = 13) ∧ c ≠ 35))) (by decide +kernel) c
  simp only [h, Bool.not_true, Bool.false_or] at e
  exact of_decide_eq_true e
theorem dig_set (c : UInt8) : digs.data.toList.contains c = digI (c.toNat : Int) := by
  have e := all_u8 (fun c => digs.data.toList.contains c == digI (c.toNat : Int)) (by decide +kernel) c
  exact beq_iff_eq.1 e
theorem wn_all : ∀ l : List UInt8, (∀ c ∈ l, ptI (c.toNat : Int) = true) → wn l = l.length
  | [], _ => rfl
  | c :: l, h => by rw [wn_cons_t c l (h c List.mem_cons_self), wn_all l (fun c hc => h c (List.mem_cons_of_mem _ hc)), List.length_cons]
theorem dropAll (p : UInt8 → Bool) : ∀ l : List UInt8, (∀ c ∈ l, p c = true) → l.dropWhile p = []
  | [], _ => rfl
  | c :: l, h => by rw [List.dropWhile_cons, if_pos (h c List.mem_cons_self)]; exact dropAll p l (fun c hc => h c (List.mem_cons_of_mem _ hc))
theorem trimS_all (l cs : List UInt8) (h : ∀ c ∈ l, cs.contains c = true) : Lib.trimS l cs = [] := by
  unfold Lib.trimS Lib.trimRightS Lib.trimLeftS
  rw [dropAll _ l.reverse (fun c hc => h c (List.mem_reverse.1 hc))]
  rfl
/-- What a word that stands alone is. -/
theorem tok_word (l : List UInt8) (hne : l ≠ []) (hp : ∀ c ∈ l, ptI (c.toNat : Int) = true) (k m : Int) (hw : wdL l = .ok (k, m)) : tokF l = .ok (k, l, m, l.length) := by
  have hwn := wn_all l hp
  match l, hne, hp, hw, hwn with
  | c :: r, _, hp, hw, hwn =>
    unfold tokF
    simp only
    rw [if_pos (hp c List.mem_cons_self), hwn, List.take_of_length_le (Nat.le_refl _), hw]
theorem wd_name (l : List UInt8) (h : nameOk l = true) : wdL l = .ok (0, 0) ∧ l ≠ [] ∧ (∀ c ∈ l, ptI (c.toNat : Int) = true) ∧ l.length ≤ 20 := by
  match l, h with
  | c :: r, h =>
    have h' : (decide ((c :: r).length ≤ 20) && !digI (c.toNat : Int) && nmAll (c :: r)) = true := h
    rw [Bool.and_eq_true, Bool.and_eq_true] at h'
    obtain ⟨⟨h1, h2⟩, h3⟩ := h'
    refine ⟨?_, by simp, fun d hd => ?_, of_decide_eq_true h1⟩
    · unfold wdL
      have hd : digI (hdI (c :: r)) = false := by
        show digI (c.toNat : Int) = false
        simpa using h2
      rw [hd, if_neg (by decide), if_pos h]
    · rw [ptX]
      exact List.all_eq_true.1 h3 d hd
theorem dec_digits (u : Nat) : ∀ c ∈ Lib.decDigits u, digI (c.toNat : Int) = true := by
  have hd : ∀ d, d < 10 → digI (((UInt8.ofNat (48 + d)).toNat : Nat) : Int) = true := by decide
  induction u using Nat.strongRecOn with
  | _ u ih =>
    intro c hc
    by_cases hu : u < 10
    · rw [dec_small hu] at hc
      rw [List.mem_singleton.1 hc]
      exact hd u hu
    · rw [dec_big hu] at hc
      rcases List.mem_append.1 hc with h | h
      · exact ih (u / 10) (by omega) c h
      · rw [List.mem_singleton.1 h]
        exact hd _ (Nat.mod_lt _ (by decide))
theorem dec_lead (u : Nat) : (Lib.decDigits u).head? = some 48 → u = 0 := by
  have hd : ∀ d, d < 10 → UInt8.ofNat (48 + d) = 48 → d = 0 := by decide
  induction u using Nat.strongRecOn with
  | _ u ih =>
    intro h
    by_cases hu : u < 10
    · rw [dec_small hu] at h
      exact hd u hu (Option.some.inj h)
    · obtain ⟨c, r, e, _⟩ := dec_head (u / 10)
      rw [dec_big hu, e] at h
      have := ih (u / 10) (by omega) (by rw [e]; exact h)
      omega
theorem wd_dec (u : Nat) (hu : u ≤ 9223372036854775807) : wdL (Lib.decDigits u) = .ok (1, (u : Int)) ∧ Lib.decDigits u ≠ [] ∧ ∀ c ∈ Lib.decDigits u, ptI (c.toNat : Int) = true := by
  obtain ⟨c, r, e, h1, h2⟩ := dec_head u
  refine ⟨?_, by rw [e]; simp, fun c hc => ptDig c (dec_digits u c hc)⟩
  have hi : intOf64 (Lib.decDigits u) = ((u : Int), true) := by
    unfold intOf64
    have := parse_itoa (u : Int) (by omega) (by omega)
    rw [Lib.itoa_nonneg] at this
    rw [this]
    simp only
    rw [if_pos (Lib.itoa_nonneg u)]
  unfold wdL
  rw [if_pos (by rw [e]; exact dec_digits u c (by rw [e]; exact List.mem_cons_self)), if_neg (by
    rintro (h | ⟨h, h'⟩)
    · exact h (trimS_all _ _ (fun c hc => by rw [dig_set]; exact dec_digits u c hc))
    · have := dec_lead u h'
      rw [this, dec_small (by decide)] at h
      exact absurd h (by decide)), hi, if_pos rfl]
theorem hexD_not : ∀ n, n < 16 → hexD n ≠ 34 ∧ hexD n ≠ 92 := by decide
theorem qz_quoB (c : UInt8) (r : List UInt8) : qz (quoB c ++ r) = (quoB c).length + qz r := by
  have hc := c.toNat_lt
  unfold quoB
  split
  · show qz (92 :: (c :: r)) = 2 + qz r
    rw [qz_esc, List.drop_succ_cons, List.drop_zero, Nat.add_comm]
  · rename_i h1
    split
    · show qz (92 :: (110 :: r)) = 2 + qz r
      rw [qz_esc, List.drop_succ_cons, List.drop_zero, Nat.add_comm]
    · split
      · show qz (c :: r) = 1 + qz r
        rw [qz_one c r (fun e => h1 (.inl (by rw [e]; rfl))) (fun e => h1 (.inr (by rw [e]; rfl))), Nat.add_comm]
      · obtain ⟨a1, a2⟩ := hexD_not (c.toNat / 16) (by omega)
        obtain ⟨b1, b2⟩ := hexD_not (c.toNat % 16) (by omega)
        show qz (92 :: 120 :: hexD (c.toNat / 16) :: hexD (c.toNat % 16) :: r) = 4 + qz r
        rw [qz_esc, List.drop_succ_cons, List.drop_zero, qz_one _ _ a1 a2, qz_one _ _ b1 b2]
        omega
theorem qz_flat (s : List UInt8) : ∀ l : List UInt8, qz (l.flatMap quoB ++ 34 :: s) = (l.flatMap quoB).length
  | [] => qz_stop _ (.inr rfl)
  | c :: l => by
    rw [List.flatMap_cons, List.append_assoc, qz_quoB, qz_flat s l, List.length_append]
/-- What a quoted string that stands alone is. -/
theorem tok_quo (l : List UInt8) : tokF (quo l) = if l.length ≤ 200 then .ok (2, l, 0, (quo l).length) else .error 11 := by
  have hq : quo l = 34 :: (l.flatMap quoB ++ [34]) := rfl
  have hl : (quo l).length = (l.flatMap quoB).length + 2 := by rw [hq, List.length_cons, List.length_append, List.length_singleton]
  have hz := qz_flat [] l
  have e : qtL (quo l) = if l.length ≤ 200 then some (l, (quo l).length) else none := by
    unfold qtL
    have hd : (quo l).drop 1 = l.flatMap quoB ++ [34] := rfl
    rw [hd, hz, hl, if_pos (by omega), List.take_append_of_le_length (Nat.le_refl _), List.take_length, unq_flat, List.take_of_length_le (by rw [hl]; exact Nat.le_refl _)]
    by_cases h : l.length ≤ 200
    · rw [if_pos ⟨rfl, h⟩, if_pos h]
    · rw [if_neg (fun x => h x.2), if_neg h]
  rw [hq] at e ⊢
  unfold tokF
  simp only
  rw [if_neg (by decide), if_pos trivial, e]
  by_cases h : l.length ≤ 200
  · rw [if_pos h, if_pos h]
  · rw [if_neg h, if_neg h]
theorem tok_op : ∀ o ∈ opl, tokF o = .ok (3, o, 0, o.length) := by
  intro o ho
  simp only [opl, List.mem_cons, List.not_mem_nil, or_false] at ho
  rcases ho with rfl | rfl | rfl | rfl | rfl | rfl | rfl | rfl | rfl | rfl | rfl | rfl | rfl | rfl | rfl | rfl | rfl | rfl <;> rfl
theorem skp_pt (l : List UInt8) (hp : ∀ c ∈ l, ptI (c.toNat : Int) = true) : skp l = l := by
  match l, hp with
  | [], _ => rfl
  | c :: r, hp =>
    have := pt_not c (hp c List.mem_cons_self)
    exact skp_other c r this.1 this.2
theorem lexN_nil (ln : Int) (c : Nat) (h : ¬ 3000 ≤ c) : lexN [] ln c = .ok [⟨5, bs [], 0, ln⟩] := lexN_end [] ln c h rfl
/-- One token alone. -/
theorem lexN_one (l : List UInt8) (ln : Int) (hs : skp l = l) (kd : Int) (t : List UInt8) (m : Int) (ht : tokF l = .ok (kd, t, m, l.length)) (h4 : kd ≠ 4) : lexN l ln 0 = .ok [⟨kd, bs t, m, ln⟩, ⟨5, bs [], 0, ln⟩] := by
  match l, hs, ht with
  | [], _, ht => cases ht
  | c :: r, hs, ht =>
    rw [lexN_tok (c :: r) ln 0 (by decide) c r hs kd t m _ ht, List.drop_of_length_le (Nat.le_refl _), if_neg h4, lexN_nil ln 1 (by decide)]
    rfl
end Go.Proofs.YtfefbnfmngdicaaDoor.PX
