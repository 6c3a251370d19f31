/- What the four laws of the lexer share: the examples, Lex as a list's function, Same. -/
import Derived.Test.YtfefbnfmngdicaaDoorY2
import Derived.Test.YtfefbnfmngdicaaDoorPY3
import Derived.Test.YtfefbnfmngdicaaDoorE7
import Derived.Lib.ItoaLen
namespace Go.Proofs.YtfefbnfmngdicaaDoor.PX
set_option linter.unusedVariables false
set_option linter.unusedSimpArgs false
open Go.RowKit Go.Proofs.YtfefbnfmngdicaaDoorW.PrintWords

theorem w64' {x : Int} (h0 : -9223372036854775808 ≤ x) (h1 : x ≤ 9223372036854775807) : wrap64 x = x := by
  unfold wrap64; omega
theorem lexF (a : ByteArray) (l : List UInt8) (hl : a.data.toList = l) (hs : a.size ≤ 8000) : lex_Lex.f a = some (match lexN l 1 0 with | .error (e, n) => ([], e, n) | .ok us => (us, 0, 0)) := by
  unfold lex_Lex.f
  rw [if_pos (by omega), if_pos hs, hl, lexA_N]
  rfl
theorem lexF_ok (a : ByteArray) (l : List UInt8) (hl : a.data.toList = l) (hs : a.size ≤ 8000) (us : List S43) (h : lexN l 1 0 = .ok us) : lex_Lex.f a = some (us, 0, 0) := by
  rw [lexF a l hl hs, h]
theorem lexF_err (a : ByteArray) (l : List UInt8) (hl : a.data.toList = l) (hs : a.size ≤ 8000) (e n : Int) (h : lexN l 1 0 = .error (e, n)) : lex_Lex.f a = some ([], e, n) := by
  rw [lexF a l hl hs, h]
theorem rd_43 (l : List S43) (i : Nat) (h : i < l.length) : rd_T43 l (i : Int) = l[i] := by
  unfold rd_T43
  rw [Int.toNat_natCast, List.getD_eq_getElem?_getD, List.getElem?_eq_getElem h, Option.getD_some]
theorem same43 (d : Int) : ∀ ys : List S43, (∀ y ∈ ys, -9223372036854775808 ≤ y.f3 + d ∧ y.f3 + d ≤ 9223372036854775807) → sameB (ys.map (shS d)) ys d = true
  | [], _ => rfl
  | y :: ys, hb => by
    have hy := hb y List.mem_cons_self
    rw [List.map_cons, sameB, same43 d ys (fun z hz => hb z (List.mem_cons_of_mem _ hz)), Bool.and_true]
    unfold eqS shS
    rw [w64' hy.1 hy.2]
    simp
theorem same_sh (ys : List S43) (d : Int) (hl : ys.length ≤ 1000000) (hb : ∀ y ∈ ys, -9223372036854775808 ≤ y.f3 + d ∧ y.f3 + d ≤ 9223372036854775807) : errataref17_Same.f (ys.map (shS d)) ys d = some true := by
  unfold errataref17_Same.f
  rw [if_pos (by rw [List.length_map]; exact hl), same43 d ys hb]
theorem same_eq (ys : List S43) (hl : ys.length ≤ 1000000) (hb : ∀ y ∈ ys, 0 ≤ y.f3 ∧ y.f3 ≤ 1000000) : errataref17_Same.f ys ys 0 = some true := by
  have h := same_sh ys 0 hl (fun y hy => by have := hb y hy; omega)
  have e : ys.map (shS 0) = ys := by
    have : ∀ u ∈ ys, shS 0 u = u := fun u _ => by unfold shS; rw [Int.add_zero]
    conv => rhs; rw [← List.map_id ys]
    exact List.map_congr_left (fun u hu => this u hu)
  rw [e] at h
  exact h
theorem small17 (k : Nat) : erratalaw17_small.f (k + 2) = some true := by
  have e1 : lex_Lex.f (⟨#[97, 62, 61, 49, 50, 32, 35, 32, 99]⟩ : ByteArray) = some ([⟨0, bs [97], 0, 1⟩, ⟨3, bs [62, 61], 0, 1⟩, ⟨1, bs [49, 50], 12, 1⟩, ⟨5, bs [], 0, 1⟩], 0, 0) := by kernel_rfl
  have e2 : lex_Lex.f (⟨#[120, 32, 43, 43, 32, 34, 97, 92, 34, 98, 34]⟩ : ByteArray) = some ([⟨0, bs [120], 0, 1⟩, ⟨3, bs [43, 43], 0, 1⟩, ⟨2, bs [97, 34, 98], 0, 1⟩, ⟨5, bs [], 0, 1⟩], 0, 0) := by kernel_rfl
  have b1 : erratalaw17_bad.f (⟨#[48, 49]⟩ : ByteArray) = some true := by kernel_rfl
  have b2 : erratalaw17_bad.f (⟨#[49, 97]⟩ : ByteArray) = some true := by kernel_rfl
  have b3 : erratalaw17_bad.f (⟨#[33]⟩ : ByteArray) = some true := by kernel_rfl
  have b4 : erratalaw17_bad.f (⟨#[34, 97]⟩ : ByteArray) = some true := by kernel_rfl
  unfold erratalaw17_small.f
  rw [e1, e2]
  simp only [Option.bind_some]
  simp [erratalaw17_small.j0, erratalaw17_small.j1, b1, b2, b3, b4, rd_T43, bs, Lib.toList_data]
end Go.Proofs.YtfefbnfmngdicaaDoor.PX

/- What tokens Lex returns, and that Write's text has them again. -/
namespace Go.Proofs.YtfefbnfmngdicaaDoor.PX
set_option linter.unusedVariables false
set_option linter.unusedSimpArgs false
open Go.RowKit Go.Proofs.YtfefbnfmngdicaaDoorW.PrintWords

/-- What a token is that Lex returns ahead of the end. -/
def TokOk (u : S43) : Prop :=
  (u.f0 = 0 ∧ u.f2 = 0 ∧ nameOk u.f1.data.toList = true) ∨
  (u.f0 = 1 ∧ ∃ n : Nat, n ≤ 9223372036854775807 ∧ u.f2 = n ∧ u.f1.data.toList = Lib.decDigits n) ∨
  (u.f0 = 2 ∧ u.f2 = 0 ∧ u.f1.size ≤ 200) ∨
  (u.f0 = 3 ∧ u.f2 = 0 ∧ u.f1.data.toList ∈ opl) ∨
  (u.f0 = 4 ∧ u.f2 = 0 ∧ u.f1.data.toList = [])
/-- What the tokens are that Lex returns, from a line on. -/
def Good : Int → List S43 → Prop
  | _, [] => False
  | ln, u :: us => (us = [] ∧ u = ⟨5, bs [], 0, ln⟩) ∨ (us ≠ [] ∧ u.f3 = ln ∧ TokOk u ∧ Good (if u.f0 = 4 then ln + 1 else ln) us)
theorem bs_list (l : List UInt8) : (bs l).data.toList = l := rfl
theorem bs_size (l : List UInt8) : (bs l).size = l.length := by unfold bs; rw [ByteArray.size, List.size_toArray]
theorem dec_of_int {l : List UInt8} {m : Int} (hd : digI (hdI l) = true) (hi : intOf64 l = (m, true)) : ∃ n : Nat, n ≤ 9223372036854775807 ∧ m = n ∧ l = Lib.decDigits n := by
  unfold intOf64 at hi
  split at hi
  · rename_i v hp
    split at hi
    · rename_i he
      injection hi with h1 _
      subst h1
      have hb := Lib.parseIntB_bounds hp
      have hb2 : v < 9223372036854775808 := by have := hb.2; simp at this; omega
      by_cases hv : v < 0
      · exfalso
        have e : Lib.itoa v = 45 :: Lib.decDigits v.natAbs := if_pos hv
        rw [← he, e] at hd
        exact absurd hd (by show ¬ digI ((45 : UInt8).toNat : Int) = true; decide)
      · obtain ⟨n, rfl⟩ := Int.eq_ofNat_of_zero_le (show 0 ≤ v by omega)
        exact ⟨n, by omega, rfl, by rw [← he, Lib.itoa_nonneg]⟩
    · injection hi with _ h2; cases h2
  · injection hi with _ h2; cases h2
theorem opl_len2 : ∀ o ∈ opl, 1 ≤ o.length ∧ o.length ≤ 2 := by decide
theorem tok_good {d : UInt8} {r : List UInt8} {kd : Int} {t : List UInt8} {m : Int} {n : Nat} (h : tokF (d :: r) = .ok (kd, t, m, n)) (ln : Int) : TokOk ⟨kd, bs t, m, ln⟩ ∧ (wrT ⟨kd, bs t, m, ln⟩).length ≤ 2 * n := by
  unfold tokF at h
  simp only at h
  split at h
  · rename_i hp
    have hwn : 1 ≤ wn (d :: r) := by rw [wn_cons_t d r hp]; omega
    have hwl := wn_le (d :: r)
    split at h
    · cases h
    · rename_i k m' hw
      injection h with h
      injection h with h1 h
      injection h with h2 h
      injection h with h3 h4
      subst h1 h2 h3 h4
      have hlen : (List.take (wn (d :: r)) (d :: r)).length = wn (d :: r) := by rw [List.length_take]; omega
      unfold wdL at hw
      split at hw
      · rename_i hdg
        split at hw
        · cases hw
        · split at hw
          · rename_i hok
            injection hw with hw
            injection hw with hk hm
            subst hk hm
            obtain ⟨u, hu, hm, hl⟩ := dec_of_int (m := (intOf64 (List.take (wn (d :: r)) (d :: r))).1) hdg (by rw [← hok])
            refine ⟨.inr (.inl ⟨rfl, u, hu, hm, hl⟩), ?_⟩
            show (wrT ⟨1, bs (List.take (wn (d :: r)) (d :: r)), _, ln⟩).length ≤ _
            unfold wrT
            rw [if_pos (.inr (.inl rfl)), List.length_append, bs_list, hlen, List.length_singleton]
            omega
          · cases hw
      · split at hw
        · rename_i hnm
          injection hw with hw
          injection hw with hk hm
          subst hk hm
          refine ⟨.inl ⟨rfl, rfl, hnm⟩, ?_⟩
          unfold wrT
          rw [if_pos (.inl rfl), List.length_append, bs_list, hlen, List.length_singleton]
          omega
        · cases hw
  · split at h
    · split at h
      · cases h
      · rename_i t' n' hq
        injection h with h
        injection h with h1 h
        injection h with h2 h
        injection h with h3 h4
        subst h1 h2 h3 h4
        unfold qtL at hq
        split at hq
        · rename_i hc
          split at hq
          · rename_i hqq
            injection hq with hq
            injection hq with h5 h6
            subst h5 h6
            refine ⟨.inr (.inr (.inl ⟨rfl, rfl, by rw [bs_size]; exact hqq.2⟩)), ?_⟩
            have hlen := congrArg List.length hqq.1
            rw [List.length_take] at hlen
            show (wrT ⟨2, bs _, 0, ln⟩).length ≤ _
            have e : wrT ⟨2, bs (unq (List.take (qz (List.drop 1 (d :: r))) (List.drop 1 (d :: r)))), 0, ln⟩ = quo (unq (List.take (qz (List.drop 1 (d :: r))) (List.drop 1 (d :: r)))) ++ [32] := rfl
            rw [e, List.length_append, List.length_singleton]
            omega
          · cases hq
        · cases hq
    · split at h
      · injection h with h
        injection h with h1 h
        injection h with h2 h
        injection h with h3 h4
        subst h1 h2 h3 h4
        exact ⟨.inr (.inr (.inr (.inr ⟨rfl, rfl, rfl⟩))), by show ([10] : List UInt8).length ≤ 2; decide⟩
      · split at h
        · cases h
        · rename_i o ho
          injection h with h
          injection h with h1 h
          injection h with h2 h
          injection h with h3 h4
          subst h1 h2 h3 h4
          have hm := (opF_mem _ _ _ ho).1
          have := opl_len2 _ hm
          refine ⟨.inr (.inr (.inr (.inl ⟨rfl, rfl, hm⟩))), ?_⟩
          unfold wrT
          rw [if_pos (.inr (.inr rfl)), List.length_append, bs_list, List.length_singleton]
          omega
theorem lexN_good : ∀ (k : Nat) (l : List UInt8) (ln : Int) (c : Nat) (us : List S43), l.length < k → lexN l ln c = .ok us → Good ln us ∧ (wrL us).length ≤ 2 * l.length
  | 0, _, _, _, _, h, _ => absurd h (Nat.not_lt_zero _)
  | k + 1, l, ln, c, us, h, hu => by
    rcases lexN_cases l ln c with ⟨h1, h2⟩ | ⟨h1, h2, h3⟩ | ⟨a, r, e, h1, h2, h3, h4⟩ | ⟨a, r, kd, t, m, n, h1, h2, h3, hn, hn2, hl, h4⟩
    · rw [h2] at hu; cases hu
    · rw [h3] at hu
      injection hu with hu
      subst hu
      exact ⟨.inl ⟨rfl, rfl⟩, Nat.zero_le _⟩
    · rw [h4] at hu; cases hu
    · rw [h4] at hu
      rcases hv : lexN ((a :: r).drop n) (if kd = 4 then ln + 1 else ln) (c + 1) with x | vs
      · rw [hv] at hu; cases hu
      · rw [hv] at hu
        injection hu with hu
        subst hu
        obtain ⟨ih1, ih2⟩ := lexN_good k _ _ _ vs (by rw [List.length_drop]; omega) hv
        obtain ⟨g1, g2⟩ := tok_good h3 ln
        rw [List.length_drop] at ih2
        refine ⟨.inr ⟨?_, rfl, g1, ih1⟩, ?_⟩
        · rintro rfl
          exact ih1
        · show (wrT _ ++ wrL vs).length ≤ _
          rw [List.length_append]
          omega
theorem step_good (x : List UInt8) (kd : Int) (t : List UInt8) (m : Int) (hx : tokF x = .ok (kd, t, m, x.length)) (hs : skp x = x) (h4 : kd ≠ 4) (s : List UInt8) (ln : Int) (c : Nat) (hc : ¬ 3000 ≤ c) :
    lexN (x ++ 32 :: s) ln c = mapOk (fun us => ⟨kd, bs t, m, ln⟩ :: us) (lexN s ln (c + 1)) := by
  match x, hx, hs with
  | [], hx, _ => cases hx
  | d :: r, hx, hs =>
    have hd : ¬ (d = 32 ∨ d = 9 ∨ d = 13) ∧ d ≠ 35 := by
      have hle := skp_le r
      constructor
      · intro hw
        rw [skp_white d r hw] at hs
        have := congrArg List.length hs
        rw [List.length_cons] at this
        omega
      · rintro rfl
        rw [skp_hash] at hs
        have h1 := congrArg List.length hs
        have h2 := skp_le ((35 :: r).drop (lfAt (35 :: r)))
        have h3 := lfAt_hash r
        rw [List.length_drop, List.length_cons] at h2
        rw [List.length_cons] at h1
        omega
    have hsk : skp (d :: r ++ 32 :: s) = d :: (r ++ 32 :: s) := skp_other d _ hd.1 hd.2
    rw [lexN_tok _ ln c hc d (r ++ 32 :: s) hsk kd t m _ (tok_app 32 s ptI32 (by decide) (by decide) d r _ hx), if_neg h4, ← List.cons_append, List.drop_left' rfl, lexN_skp (32 :: s) s ln (c + 1) (skp_white 32 s (.inl rfl))]
theorem good_lex : ∀ (us : List S43) (ln : Int) (c : Nat), Good ln us → c + us.length ≤ 3000 → lexN (wrL us) ln c = .ok us
  | [], _, _, h, _ => h.elim
  | u :: us, ln, c, h, hc => by
    rw [List.length_cons] at hc
    rcases h with ⟨rfl, rfl⟩ | ⟨hne, hl, ht, hg⟩
    · exact lexN_nil ln c (by omega)
    · have ih := good_lex us _ (c + 1) hg (by omega)
      have hw : wrL (u :: us) = wrT u ++ wrL us := rfl
      rw [hw]
      rcases u with ⟨f0, f1, f2, f3⟩
      simp only at hl
      subst hl
      rcases ht with ⟨h0, h2, hn⟩ | ⟨h0, n, hn, h2, hl⟩ | ⟨h0, h2, hs⟩ | ⟨h0, h2, ho⟩ | ⟨h0, h2, hl⟩
      · simp only at h0 h2 hn
        subst h0 h2
        obtain ⟨hw1, hw2, hw3, _⟩ := wd_name _ hn
        have e : wrT ⟨0, f1, 0, f3⟩ ++ wrL us = f1.data.toList ++ 32 :: wrL us := by
          show (f1.data.toList ++ [32]) ++ wrL us = _
          rw [List.append_assoc]; rfl
        simp only at ih
        rw [if_neg (by decide)] at ih
        rw [e, step_good _ 0 _ 0 (tok_word _ hw2 hw3 0 0 hw1) (skp_pt _ hw3) (by decide) _ _ _ (by omega), ih, bs_eq]
        rfl
      · simp only at h0 h2 hl
        subst h0 h2
        obtain ⟨hw1, hw2, hw3⟩ := wd_dec n hn
        rw [← hl] at hw1 hw2 hw3
        have e : wrT ⟨1, f1, n, f3⟩ ++ wrL us = f1.data.toList ++ 32 :: wrL us := by
          show (f1.data.toList ++ [32]) ++ wrL us = _
          rw [List.append_assoc]; rfl
        simp only at ih
        rw [if_neg (by decide)] at ih
        rw [e, step_good _ 1 _ n (tok_word _ hw2 hw3 1 n hw1) (skp_pt _ hw3) (by decide) _ _ _ (by omega), ih, bs_eq]
        rfl
      · simp only at h0 h2 hs
        subst h0 h2
        have htq := tok_quo f1.data.toList
        rw [if_pos (by rw [sz_toList]; exact hs)] at htq
        have e : wrT ⟨2, f1, 0, f3⟩ ++ wrL us = quo f1.data.toList ++ 32 :: wrL us := by
          show (quo f1.data.toList ++ [32]) ++ wrL us = _
          rw [List.append_assoc]; rfl
        simp only at ih
        rw [if_neg (by decide)] at ih
        rw [e, step_good _ 2 _ 0 htq (skp_other 34 _ (by decide) (by decide)) (by decide) _ _ _ (by omega), ih, bs_eq]
        rfl
      · simp only at h0 h2 ho
        subst h0 h2
        have e : wrT ⟨3, f1, 0, f3⟩ ++ wrL us = f1.data.toList ++ 32 :: wrL us := by
          show (f1.data.toList ++ [32]) ++ wrL us = _
          rw [List.append_assoc]; rfl
        have hso : ∀ o ∈ opl, skp o = o := by decide
        simp only at ih
        rw [if_neg (by decide)] at ih
        rw [e, step_good _ 3 _ 0 (tok_op _ ho) (hso _ ho) (by decide) _ _ _ (by omega), ih, bs_eq]
        rfl
      · simp only at h0 h2 hl
        subst h0 h2
        have e : wrT ⟨4, f1, 0, f3⟩ ++ wrL us = 10 :: wrL us := rfl
        simp only at ih
        rw [if_pos trivial] at ih
        rw [e, lexN_tok _ f3 c (by omega) 10 (wrL us) (skp_other 10 _ (by decide) (by decide)) 4 [] 0 1 (tok10 _), if_pos rfl]
        show mapOk _ (lexN (wrL us) (f3 + 1) (c + 1)) = _
        rw [ih, ← hl, bs_eq]
        rfl
end Go.Proofs.YtfefbnfmngdicaaDoor.PX
