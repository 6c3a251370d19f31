/- LexBack: the printed law comes to true. -/
import Derived.Test.YtfefbnfmngdicaaDoorZ1
import Derived.Test.YtfefbnfmngdicaaDoorY2
import Derived.Test.YtfefbnfmngdicaaDoorPY7
import Derived.Lib.ItoaLen
namespace Go.Proofs.YtfefbnfmngdicaaDoor.PX
set_option linter.unusedVariables false
set_option linter.unusedSimpArgs false
open Go.RowKit Go.Proofs.YtfefbnfmngdicaaDoorW.PrintWords

/-- What a token is that Lex returns ahead of the end. -/
def TokOk (u : S43) : Prop :=
  (u.f0 = 0 ∧ u.f2 = 0 ∧ nameOk u.f1.data.toList = true) ∨
  (u.f0 = 1 ∧ ∃ n : Nat, n ≤ 9223372036854775807 ∧ u.f2 = n ∧ u.f1.data.toList = Lib.decDigits n) ∨
  (u.f0 = 2 ∧ u.f2 = 0 ∧ u.f1.size ≤ 200) ∨
  (u.f0 = 3 ∧ u.f2 = 0 ∧ u.f1.data.toList ∈ opl) ∨
  (u.f0 = 4 ∧ u.f2 = 0 ∧ u.f1.data.toList = [])
/-- What the tokens are that Lex returns, from a line on. -/
def Good : Int → List S43 → Prop
  | _, [] => False
  | ln, u :: us => (us = [] ∧ u = ⟨5, bs [], 0, ln⟩) ∨ (us ≠ [] ∧ u.f3 = ln ∧ TokOk u ∧ Good (if u.f0 = 4 then ln + 1 else ln) us)
theorem bs_list (l : List UInt8) : (bs l).data.toList = l := rfl
theorem bs_size (l : List UInt8) : (bs l).size = l.length := by unfold bs; rw [ByteArray.size, List.size_toArray]
theorem dec_of_int {l : List UInt8} {m : Int} (hd : digI (hdI l) = true) (hi : intOf64 l = (m, true)) : ∃ n : Nat, n ≤ 9223372036854775807 ∧ m = n ∧ l = Lib.decDigits n := by
  unfold intOf64 at hi
  split at hi
  · rename_i v hp
    split at hi
    · rename_i he
      injection hi with h1 _
      subst h1
      have hb := Lib.parseIntB_bounds hp
      have hb2 : v < 9223372036854775808 := by have := hb.2; simp at this; omega
      by_cases hv : v < 0
      · exfalso
        have e : Lib.itoa v = 45 :: Lib.decDigits v.natAbs := if_pos hv
        rw [← he, e] at hd
        exact absurd hd (by show ¬ digI ((45 : UInt8).toNat : Int) = true; decide)
      · obtain ⟨n, rfl⟩ := Int.eq_ofNat_of_zero_le (show 0 ≤ v by omega)
        exact ⟨n, by omega, rfl, by rw [← he, Lib.itoa_nonneg]⟩
    · injection hi with _ h2; cases h2
  · injection hi with _ h2; cases h2
theorem opl_len2 : ∀ o ∈ opl, 1 ≤ o.length ∧ o.length ≤ 2 := by decide
theorem tok_good {d : UInt8} {r : List UInt8} {kd : Int} {t : List UInt8} {m : Int} {n : Nat} (h : tokF (d :: r) = .ok (kd, t, m, n)) (ln : Int) : TokOk ⟨kd, bs t, m, ln⟩ ∧ (wrT ⟨kd, bs t, m, ln⟩).length ≤ 2 * n := by
  unfold tokF at h
  simp only at h
  split at h
  · rename_i hp
    have hwn : 1 ≤ wn (d :: r) := by rw [wn_cons_t d r hp]; omega
    have hwl := wn_le (d :: r)
    split at h
    · cases h
    · rename_i k m' hw
      injection h with h
      injection h with h1 h
      injection h with h2 h
      injection h with h3 h4
      subst h1 h2 h3 h4
      have hlen : (List.take (wn (d :: r)) (d :: r)).length = wn (d :: r) := by rw [List.length_take]; omega
      unfold wdL at hw
      split at hw
      · rename_i hdg
        split at hw
        · cases hw
        · split at hw
          · rename_i hok
            injection hw with hw
            injection hw with hk hm
            subst hk hm
            obtain ⟨u, hu, hm, hl⟩ := dec_of_int (m := (intOf64 (List.take (wn (d :: r)) (d :: r))).1) hdg (by rw [← hok])
            refine ⟨.inr (.inl ⟨rfl, u, hu, hm, hl⟩), ?_⟩
            show (wrT ⟨1, bs (List.take (wn (d :: r)) (d :: r)), _, ln⟩).length ≤ _
            unfold wrT
            rw [if_pos (.inr (.inl rfl)), List.length_append, bs_list, hlen, List.length_singleton]
            omega
          · cases hw
      · split at hw
        · rename_i hnm
          injection hw with hw
          injection hw with hk hm
          subst hk hm
          refine ⟨.inl ⟨rfl, rfl, hnm⟩, ?_⟩
          unfold wrT
          rw [if_pos (.inl rfl), List.length_append, bs_list, hlen, List.length_singleton]
          omega
        · cases hw
  · split at h
    · split at h
      · cases h
      · rename_i t' n' hq
        injection h with h
        injection h with h1 h
        injection h with h2 h
        injection h with h3 h4
        subst h1 h2 h3 h4
        unfold qtL at hq
        split at hq
        · rename_i hc
          split at hq
          · rename_i hqq
            injection hq with hq
            injection hq with h5 h6
            subst h5 h6
            refine ⟨.inr (.inr (.inl ⟨rfl, rfl, by rw [bs_size]; exact hqq.2⟩)), ?_⟩
            have hlen := congrArg List.length hqq.1
            rw [List.length_take] at hlen
            show (wrT ⟨2, bs _, 0, ln⟩).length ≤ _
            have e : wrT ⟨2, bs (unq (List.take (qz (List.drop 1 (d :: r))) (List.drop 1 (d :: r)))), 0, ln⟩ = quo (unq (List.take (qz (List.drop 1 (d :: r))) (List.drop 1 (d :: r)))) ++ [32] := rfl
            rw [e, List.length_append, List.length_singleton]
            omega
          · cases hq
        · cases hq
    · split at h
      · injection h with h
        injection h with h1 h
        injection h with h2 h
        injection h with h3 h4
        subst h1 h2 h3 h4
        exact ⟨.inr (.inr (.inr (.inr ⟨rfl, rfl, rfl⟩))), by show ([10] : List UInt8).length ≤ 2; decide⟩
      · split at h
        · cases h
        · rename_i o ho
          injection h with h
          injection h with h1 h
          injection h with h2 h
          injection h with h3 h4
          subst h1 h2 h3 h4
          have hm := (opF_mem _ _ _ ho).1
          have := opl_len2 _ hm
          refine ⟨.inr (.inr (.inr (.inl ⟨rfl, rfl, hm⟩))), ?_⟩
          unfold wrT
          rw [if_pos (.inr (.inr rfl)), List.length_append, bs_list, List.length_singleton]
          omega
theorem lexN_good : ∀ (k : Nat) (l : List UInt8) (ln : Int) (c : Nat) (us : List S43), l.length < k → lexN l ln c = .ok us → Good ln us ∧ (wrL us).length ≤ 2 * l.length
  | 0, _, _, _, _, h, _ => absurd h (Nat.not_lt_zero _)
  | k + 1, l, ln, c, us, h, hu => by
    rcases lexN_cases l ln c with ⟨h1, h2⟩ | ⟨h1, h2, h3⟩ | ⟨a, r, e, h1, h2, h3, h4⟩ | ⟨a, r, kd, t, m, n, h1, h2, h3, hn, hn2, hl, h4⟩
    · rw [h2] at hu; cases hu
    · rw [h3] at hu
      injection hu with hu
      subst hu
      exact ⟨.inl ⟨rfl, rfl⟩, Nat.zero_le _⟩
    · rw [h4] at hu; cases hu
    · rw [h4] at hu
      rcases hv : lexN ((a :: r).drop n) (if kd = 4 then ln + 1 else ln) (c + 1) with x | vs
      · rw [hv] at hu; cases hu
      · rw [hv] at hu
        injection hu with hu
        subst hu
        obtain ⟨ih1, ih2⟩ := lexN_good k _ _ _ vs (by rw [List.length_drop]; omega) hv
        obtain ⟨g1, g2⟩ := tok_good h3 ln
        rw [List.length_drop] at ih2
        refine ⟨.inr ⟨?_, rfl, g1, ih1⟩, ?_⟩
        · rintro rfl
          exact ih1
        · show (wrT _ ++ wrL vs).length ≤ _
          rw [List.length_append]
          omega
theorem step_good (x : List UInt8) (kd : Int) (t : List UInt8) (m : Int) (hx : tokF x = .ok (kd, t, m, x.length)) (hs : skp x = x) (h4 : kd ≠ 4) (s : List UInt8) (ln : Int) (c : Nat) (hc : ¬ 3000 ≤ c) :
    lexN (x ++ 32 :: s) ln c = mapOk (fun us => ⟨kd, bs t, m, ln⟩ :: us) (lexN s ln (c + 1)) := by
  match x, hx, hs with
  | [], hx, _ => cases hx
  | d :: r, hx, hs =>
    have hd : ¬ (d = 32 ∨ d = 9 ∨ d = 13) ∧ d ≠ 35 := by
      have hle := skp_le r
      constructor
      · intro hw
        rw [skp_white d r hw] at hs
        have := congrArg List.length hs
        rw [List.length_cons] at this
        omega
      · rintro rfl
        rw [skp_hash] at hs
        have h1 := congrArg List.length hs
        have h2 := skp_le ((35 :: r).drop (lfAt (35 :: r)))
        have h3 := lfAt_hash r
        rw [List.length_drop, List.length_cons] at h2
        rw [List.length_cons] at h1
        omega
    have hsk : skp (d :: r ++ 32 :: s) = d :: (r ++ 32 :: s) := skp_other d _ hd.1 hd.2
    rw [lexN_tok _ ln c hc d (r ++ 32 :: s) hsk kd t m _ (tok_app 32 s ptI32 (by decide) (by decide) d r _ hx), if_neg h4, ← List.cons_append, List.drop_left' rfl, lexN_skp (32 :: s) s ln (c + 1) (skp_white 32 s (.inl rfl))]
theorem good_lex : ∀ (us : List S43) (ln : Int) (c : Nat), Good ln us → c + us.length ≤ 3000 → lexN (wrL us) ln c = .ok us
  | [], _, _, h, _ => h.elim
  | u :: us, ln, c, h, hc => by
    rw [List.length_cons] at hc
    rcases h with ⟨rfl, rfl⟩ | ⟨hne, hl, ht, hg⟩
    · exact lexN_nil ln c (by omega)
    · have ih := good_lex us _ (c + 1) hg (by omega)
      have hw : wrL (u :: us) = wrT u ++ wrL us := rfl
      rw [hw]
      rcases u with ⟨f0, f1, f2, f3⟩
      simp only at hl
      subst hl
      rcases ht with ⟨h0, h2, hn⟩ | ⟨h0, n, hn, h2, hl⟩ | ⟨h0, h2, hs⟩ | ⟨h0, h2, ho⟩ | ⟨h0, h2, hl⟩
      · simp only at h0 h2 hn
        subst h0 h2
        obtain ⟨hw1, hw2, hw3, _⟩ := wd_name _ hn
        have e : wrT ⟨0, f1, 0, f3⟩ ++ wrL us = f1.data.toList ++ 32 :: wrL us := by
          show (f1.data.toList ++ [32]) ++ wrL us = _
          rw [List.append_assoc]; rfl
        simp only at ih
        rw [if_neg (by decide)] at ih
        rw [e, step_good _ 0 _ 0 (tok_word _ hw2 hw3 0 0 hw1) (skp_pt _ hw3) (by decide) _ _ _ (by omega), ih, bs_eq]
        rfl
      · simp only at h0 h2 hl
        subst h0 h2
        obtain ⟨hw1, hw2, hw3⟩ := wd_dec n hn
        rw [← hl] at hw1 hw2 hw3
        have e : wrT ⟨1, f1, n, f3⟩ ++ wrL us = f1.data.toList ++ 32 :: wrL us := by
          show (f1.data.toList ++ [32]) ++ wrL us = _
          rw [List.append_assoc]; rfl
        simp only at ih
        rw [if_neg (by decide)] at ih
        rw [e, step_good _ 1 _ n (tok_word _ hw2 hw3 1 n hw1) (skp_pt _ hw3) (by decide) _ _ _ (by omega), ih, bs_eq]
        rfl
      · simp only at h0 h2 hs
        subst h0 h2
        have htq := tok_quo f1.data.toList
        rw [if_pos (by rw [sz_toList]; exact hs)] at htq
        have e : wrT ⟨2, f1, 0, f3⟩ ++ wrL us = quo f1.data.toList ++ 32 :: wrL us := by
          show (quo f1.data.toList ++ [32]) ++ wrL us = _
          rw [List.append_assoc]; rfl
        simp only at ih
        rw [if_neg (by decide)] at ih
        rw [e, step_good _ 2 _ 0 htq (skp_other 34 _ (by decide) (by decide)) (by decide) _ _ _ (by omega), ih, bs_eq]
        rfl
      · simp only at h0 h2 ho
        subst h0 h2
        have e : wrT ⟨3, f1, 0, f3⟩ ++ wrL us = f1.data.toList ++ 32 :: wrL us := by
          show (f1.data.toList ++ [32]) ++ wrL us = _
          rw [List.append_assoc]; rfl
        have hso : ∀ o ∈ opl, skp o = o := by decide
        simp only at ih
        rw [if_neg (by decide)] at ih
        rw [e, step_good _ 3 _ 0 (tok_op _ ho) (hso _ ho) (by decide) _ _ _ (by omega), ih, bs_eq]
        rfl
      · simp only at h0 h2 hl
        subst h0 h2
        have e : wrT ⟨4, f1, 0, f3⟩ ++ wrL us = 10 :: wrL us := rfl
        simp only at ih
        rw [if_pos trivial] at ih
        rw [e, lexN_tok _ f3 c (by omega) 10 (wrL us) (skp_other 10 _ (by decide) (by decide)) 4 [] 0 1 (tok10 _), if_pos rfl]
        show mapOk _ (lexN (wrL us) (f3 + 1) (c + 1)) = _
        rw [ih, ← hl, bs_eq]
        rfl

theorem back_loop (us : List S43) (hl : us.length ≤ 3000) (hb : ∀ u ∈ us, 0 ≤ u.f3 ∧ u.f3 ≤ 1000000) : ∀ (j i k : Nat) (ln : Int), us.length - i ≤ j → 2 * j + 1 ≤ k → i ≤ us.length → (i = us.length ∨ Good ln (us.drop i)) →
    erratalaw17_LexBack.l0 k true us ln (i : Int) = some true := by
  intro j
  induction j with
  | zero =>
    intro i k ln hj hk hi hg
    obtain ⟨k, rfl⟩ : ∃ m, k = m + 1 := ⟨k - 1, by omega⟩
    simp only [erratalaw17_LexBack.l0]
    rw [if_neg (by omega)]
  | succ j ih =>
    intro i k ln hj hk hi hg
    by_cases h : i < us.length
    · obtain ⟨k, rfl⟩ : ∃ m, k = m + 2 := ⟨k - 2, by omega⟩
      have hd : us.drop i = us[i] :: us.drop (i + 1) := List.drop_eq_getElem_cons h
      have hg' : Good ln (us[i] :: us.drop (i + 1)) := by
        rcases hg with hg | hg
        · omega
        · rw [← hd]; exact hg
      have hrd := rd_43 us i h
      have hub := hb us[i] (List.getElem_mem _)
      have hw1 : Aside0 (wrap64 ((us.length : Int) - 1) = (us.length : Int) - 1) := ⟨w64' (by omega) (by omega)⟩
      have hw2 : Aside0 (wrap64 ((i : Int) + 1) = ((i + 1 : Nat) : Int)) := ⟨by rw [w64' (by omega) (by omega)]; omega⟩
      have hdl : (us.drop (i + 1)).length = us.length - (i + 1) := List.length_drop
      simp only [erratalaw17_LexBack.l0]
      rw [if_pos (show (i : Int) < (us.length : Int) by omega), if_pos (show (0 : Int) ≤ (i : Int) by omega), hrd, hw1.out]
      revert hg' hub
      generalize us[i] = u
      intro hg' hub
      rcases u with ⟨f0, f1, f2, f3⟩
      simp only at hub
      rcases hg' with ⟨hn, hu⟩ | ⟨hn, hl3, ht, hgn⟩
      · injection hu with h0 h1 h2 h3
        subst h0 h1 h2 h3
        have hie : i + 1 = us.length := by
          have := congrArg List.length hn
          rw [hdl, List.length_nil] at this
          omega
        rw [if_pos rfl]
        have e : (((5 : Int) == 5) != ((i : Int) == (us.length : Int) - 1)) = false := by
          rw [show ((i : Int) == (us.length : Int) - 1) = true from beq_iff_eq.2 (by omega)]
          rfl
        simp only
        rw [e, if_neg (by decide), if_neg (by decide)]
        simp only [erratalaw17_LexBack.j2]
        rw [if_neg (by decide), if_neg (by decide), if_neg (by decide), if_neg (by decide), if_neg (by decide), hw2.out]
        exact ih (i + 1) k _ (by omega) (by omega) (by omega) (.inl hie)
      · simp only at hl3 hgn
        subst hl3
        have hin : i + 1 < us.length := by
          rcases Nat.lt_or_ge (i + 1) us.length with h' | h'
          · exact h'
          · exact absurd (List.drop_of_length_le h') hn
        have hil : ((i : Int) == (us.length : Int) - 1) = false := beq_eq_false_iff_ne.2 (by omega)
        have hw3 : Aside0 (wrap64 (f3 + 1) = f3 + 1) := ⟨w64' (by omega) (by omega)⟩
        rw [if_pos rfl, hil]
        dsimp only
        rcases ht with ⟨h0, h2, hnm⟩ | ⟨h0, n, hn9, h2, hl9⟩ | ⟨h0, h2, hs⟩ | ⟨h0, h2, ho⟩ | ⟨h0, h2, hl9⟩
        · simp only at h0 h2 hnm
          subst h0 h2
          rw [if_neg (by decide)] at hgn
          rw [if_neg (by decide), if_neg (by decide)]
          simp only [erratalaw17_LexBack.j2, shape_Name.f, Option.bind_some]
          rw [if_neg (by decide), if_pos trivial, if_pos hnm, hw2.out]
          exact ih (i + 1) k f3 (by omega) (by omega) (by omega) (.inr hgn)
        · simp only at h0 h2 hl9
          subst h0 h2
          rw [if_neg (by decide)] at hgn
          have hdec : text_Decimal.f (n : Int) = some f1 := by
            unfold text_Decimal.f
            rw [if_pos ⟨by omega, by omega⟩, Lib.itoa_nonneg, ← hl9]
          rw [if_neg (by decide), if_pos rfl]
          simp only [erratalaw17_LexBack.j2]
          rw [if_neg (by decide), if_neg (by decide), if_pos trivial, if_neg (by omega), hdec]
          simp only [Option.bind_some]
          rw [if_pos trivial, hw2.out]
          exact ih (i + 1) k f3 (by omega) (by omega) (by omega) (.inr hgn)
        · simp only at h0 h2 hs
          subst h0 h2
          rw [if_neg (by decide)] at hgn
          rw [if_neg (by decide), if_neg (by decide)]
          simp only [erratalaw17_LexBack.j2]
          rw [if_neg (by decide), if_neg (by decide), if_neg (by decide), if_pos trivial, if_neg (by omega), hw2.out]
          exact ih (i + 1) k f3 (by omega) (by omega) (by omega) (.inr hgn)
        · simp only at h0 h2 ho
          subst h0 h2
          rw [if_neg (by decide)] at hgn
          rw [if_neg (by decide), if_neg (by decide)]
          simp only [erratalaw17_LexBack.j2]
          rw [if_neg (by decide), if_neg (by decide), if_neg (by decide), if_neg (by decide), if_neg (by decide), hw2.out]
          exact ih (i + 1) k f3 (by omega) (by omega) (by omega) (.inr hgn)
        · simp only at h0 h2 hl9
          subst h0 h2
          rw [if_pos rfl] at hgn
          rw [if_neg (show ¬ (((4 : Int) == 5) != false) = true by decide), if_neg (show ¬ (4 : Int) = 1 by decide)]
          simp only [erratalaw17_LexBack.j2]
          rw [if_neg (by decide), if_neg (by decide), if_neg (by decide), if_neg (by decide), if_pos trivial, hw2.out, hw3.out]
          exact ih (i + 1) k (f3 + 1) (by omega) (by omega) (by omega) (.inr hgn)
    · exact ih i k ln (by omega) (by omega) hi (hg.imp_left (fun h => h))
theorem LexBack_ex (a : ByteArray) {p : Prop} (_ : p) : ∃ k, erratalaw17_LexBack.f k a = some true := by
  refine ⟨7000, ?_⟩
  unfold erratalaw17_LexBack.f
  rw [small17 6998]
  simp only [Option.bind_some]
  by_cases ha : (a.size : Int) > 2500
  · rw [if_pos ha]
  · rw [if_neg ha]
    have hla : a.data.toList.length ≤ 2500 := by rw [sz_toList]; omega
    rcases ea : lexN a.data.toList 1 0 with ⟨e, n⟩ | us
    · have he := lexN_errline (a.data.toList.length + 1) _ _ _ _ _ (by omega) ea
      rw [lexF_err a _ rfl (by omega) e n ea]
      simp only [Option.bind_some]
      rw [if_neg (show ¬ e = 0 by omega), if_pos trivial, if_pos (show (([] : List S43).length : Int) = 0 from rfl), decide_eq_true (show n ≥ 0 by omega)]
    · have hcount := lexN_count (a.data.toList.length + 1) _ _ _ us (by omega) ea
      have hlines := lexN_lines (a.data.toList.length + 1) _ _ _ us (by omega) ea
      obtain ⟨hg, hwl⟩ := lexN_good (a.data.toList.length + 1) _ _ _ us (by omega) ea
      have htx : ∀ t ∈ us, t.f1.size ≤ 1000000 := by
        intro t ht
        have h1 : ∀ (vs : List S43) (ln : Int), Good ln vs → ∀ t ∈ vs, t.f1.size ≤ 1000000 := by
          intro vs
          induction vs with
          | nil => intro ln hg; exact hg.elim
          | cons v vs ih =>
            intro ln hg t ht
            rcases hg with ⟨rfl, rfl⟩ | ⟨_, _, hok, hg⟩
            · rw [List.mem_singleton.1 ht]; show (0 : Nat) ≤ _; omega
            · rcases List.mem_cons.1 ht with rfl | ht
              · rcases hok with ⟨_, _, hn⟩ | ⟨_, n, hn, _, hl⟩ | ⟨_, _, hs⟩ | ⟨_, _, ho⟩ | ⟨_, _, hl⟩
                · have := (wd_name _ hn).2.2.2; rw [sz_toList] at this; omega
                · have h2 := Lib.itoa_length_le n (by omega) (by omega)
                  rw [Lib.itoa_nonneg, ← hl, sz_toList] at h2
                  omega
                · omega
                · have := opl_len2 _ ho; rw [sz_toList] at this; omega
                · have := congrArg List.length hl; rw [sz_toList, List.length_nil] at this; omega
              · exact ih _ hg t ht
        exact h1 us 1 hg t ht
      have hwr : lex_Write.f us = some ⟨(wrL us).toArray⟩ := if_pos ⟨by omega, by omega, htx⟩
      have hlx := good_lex us 1 0 hg (by omega)
      rw [lexF_ok a _ rfl (by omega) us ea]
      simp only [Option.bind_some]
      rw [if_pos trivial, hwr]
      simp only [Option.bind_some]
      rw [lexF_ok _ (wrL us) rfl (by rw [ByteArray.size, List.size_toArray]; omega) us hlx]
      simp only [Option.bind_some]
      rw [if_pos trivial, if_pos trivial, if_pos trivial, same_eq us (by omega) (fun u hu => by have := hlines u hu; omega)]
      simp only [Option.bind_some]
      rw [if_pos trivial]
      simp only [erratalaw17_LexBack.j0]
      rw [if_neg (by rw [beq_iff_eq]; omega)]
      exact back_loop us (by omega) (fun u hu => by have := hlines u hu; omega) us.length 0 6999 1 (by omega) (by omega) (by omega) (.inr hg)
end Go.Proofs.YtfefbnfmngdicaaDoor.PX
