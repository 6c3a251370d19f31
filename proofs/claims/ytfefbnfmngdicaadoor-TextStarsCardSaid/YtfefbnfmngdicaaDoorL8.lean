/- TextStars: the printed law comes to true. -/
import Derived.Test.YtfefbnfmngdicaaDoorL7
import Derived.Test.YtfefbnfmngdicaaDoorPX18
namespace Go.Proofs.YtfefbnfmngdicaaDoor.PX
set_option linter.unusedVariables false
set_option linter.unusedSimpArgs false
open Go.RowKit Go.Proofs.YtfefbnfmngdicaaDoorW.PrintWords Go.Proofs.YtfefbnfmngdicaaDoorW.PrintLast Go.Proofs.YtfefbnfmngdicaaDoorW.PrintMore

theorem app_list (a b : ByteArray) : (a ++ b).data.toList = a.data.toList ++ b.data.toList := by
  rw [ByteArray.data_append, Array.toList_append]
theorem pts_star (l : List UInt8) : pts (42 :: l) = none :: pts l := by
  rw [pts_cons _ (by simp)]
  rfl
theorem pts_any (l : List UInt8) : pts (63 :: l) = some (fun _ => true) :: pts l := by
  rw [pts_cons _ (by simp)]
  rfl
theorem pts_esc_all : ∀ (s l : List UInt8), pts (esc s ++ l) = s.map lit ++ pts l
  | [], l => rfl
  | c :: s, l => by
    rw [esc_cons, List.append_assoc, (pts_esc c s (esc s ++ l)).1, pts_esc_all s l]
    rfl
theorem mt_lits_app : ∀ (bs : List UInt8) (ps : List Pt) (s : List UInt8), mt (bs.map lit ++ ps) (bs ++ s) = mt ps s
  | [], ps, s => rfl
  | b :: bs, ps, s => by
    show (b == b && mt (bs.map lit ++ ps) (bs ++ s)) = _
    rw [beq_self_eq_true, Bool.true_and, mt_lits_app bs ps s]

/-! A star at the end. -/
theorem findB_app : ∀ (l : List UInt8), findB (l ++ [42]) = findB l
  | [] => rfl
  | c :: r => by
    show (if c = 93 then some 0 else (findB (r ++ [42])).map (· + 1)) = _
    rw [findB_app r]
    rfl
theorem closeAt_app : ∀ (l : List UInt8), closeAt (l ++ [42]) = closeAt l
  | [] => rfl
  | c :: r => by
    show (findB (r ++ [42])).map (· + 1) = _
    rw [findB_app r]
    rfl
theorem cls_app (r : List UInt8) : cls (r ++ [42]) = cls r := by
  match r with
  | [] => rfl
  | c :: r =>
    have e1 : (c :: r ++ [42]).head? = (c :: r).head? := rfl
    have e2 : (c :: r ++ [42]).drop 1 = r ++ [42] := rfl
    have e3 : (c :: r).drop 1 = r := rfl
    unfold cls
    rw [e1, e2, e3, closeAt_app, closeAt_app]
    by_cases h : (c :: r).head? = some 33
    · rw [if_pos h]
      cases hc : closeAt r with
      | none =>
        simp only
        cases hd : closeAt (c :: r) with
        | none => rfl
        | some n =>
          have := (closeAt_lt _ _ hd).1
          simp only [Option.map_some]
          rw [List.take_append_of_le_length (by omega)]
      | some n =>
        have := (closeAt_lt _ _ hc).1
        simp only
        rw [List.take_append_of_le_length (by omega)]
    · rw [if_neg h]
      simp only
      cases hd : closeAt (c :: r) with
      | none => rfl
      | some n =>
        have := (closeAt_lt _ _ hd).1
        simp only [Option.map_some]
        rw [List.take_append_of_le_length (by omega)]
theorem part1_app (l : List UInt8) (h : l ≠ []) (hl : l.getLast? ≠ some 92) : part1 (l ++ [42]) = part1 l := by
  match l, h with
  | c :: r, _ =>
    show part1 (c :: (r ++ [42])) = part1 (c :: r)
    by_cases h92 : c = 92
    · subst h92
      match r with
      | [] => exact absurd rfl hl
      | d :: r => rfl
    · by_cases h42 : c = 42
      · subst h42; rfl
      · by_cases h63 : c = 63
        · subst h63; rfl
        · by_cases h91 : c = 91
          · subst h91
            cases hc : cls r with
            | none => rw [part1_none r hc, part1_none (r ++ [42]) (by rw [cls_app, hc])]
            | some x =>
              obtain ⟨n, neg, set⟩ := x
              rw [part1_some r n neg set hc, part1_some (r ++ [42]) n neg set (by rw [cls_app, hc])]
          · rw [part1_byte c r h92 h42 h63 h91, part1_byte c (r ++ [42]) h92 h42 h63 h91]
theorem pts_appF : ∀ (k : Nat) (l : List UInt8), l.length ≤ k → l.getLast? ≠ some 92 → pts (l ++ [42]) = pts l ++ [none]
  | 0, l, hk, _ => by
    have : l = [] := List.eq_nil_of_length_eq_zero (by omega)
    subst this
    rfl
  | k + 1, l, hk, hl => by
    by_cases h : l = []
    · subst h; rfl
    · have h1 := part1_pos l
      have h2 := part1_le l h
      rw [pts_cons (l ++ [42]) (by simp), pts_cons l h, part1_app l h hl, List.drop_append_of_le_length h2, pts_appF k (l.drop (part1 l).2) (by rw [List.length_drop]; omega) ?_]
      · rfl
      · intro e
        by_cases h3 : (part1 l).2 < l.length
        · rw [List.getLast?_drop, if_neg (by omega)] at e
          exact hl e
        · rw [List.drop_of_length_le (by omega)] at e
          cases e
theorem mt_app_star : ∀ (ps : List Pt) (s : List UInt8), mt (ps ++ [none]) s = true ↔ ∃ i, i ≤ s.length ∧ mt ps (s.take i) = true
  | [], s => by
    show starAny (mt []) s = true ↔ _
    rw [starAny_iff]
    constructor
    · intro _
      exact ⟨0, Nat.zero_le _, rfl⟩
    · intro _
      refine ⟨s.length, Nat.le_refl _, ?_⟩
      rw [List.drop_length]
      rfl
  | some f :: ps, [] => by
    constructor
    · intro h; cases h
    · rintro ⟨i, hi, h⟩
      rw [List.take_nil] at h
      cases h
  | some f :: ps, c :: s => by
    show (f c && mt (ps ++ [none]) s) = true ↔ _
    rw [Bool.and_eq_true, mt_app_star ps s]
    constructor
    · rintro ⟨h1, i, hi, h2⟩
      refine ⟨i + 1, by simp only [List.length_cons]; omega, ?_⟩
      show (f c && mt ps (s.take i)) = true
      rw [h1, h2]
      rfl
    · rintro ⟨i, hi, h⟩
      cases i with
      | zero => cases h
      | succ i =>
        have h' : (f c && mt ps (s.take i)) = true := h
        rw [Bool.and_eq_true] at h'
        exact ⟨h'.1, i, by simp only [List.length_cons] at hi; omega, h'.2⟩
  | none :: ps, s => by
    show starAny (mt (ps ++ [none])) s = true ↔ ∃ i, i ≤ s.length ∧ starAny (mt ps) (s.take i) = true
    rw [starAny_iff]
    constructor
    · rintro ⟨j, hj, h⟩
      obtain ⟨i, hi, h2⟩ := (mt_app_star ps _).1 h
      rw [List.length_drop] at hi
      refine ⟨j + i, by omega, (starAny_iff _ _).2 ⟨j, by rw [List.length_take]; omega, ?_⟩⟩
      rw [List.drop_take, show j + i - j = i by omega]
      exact h2
    · rintro ⟨i, hi, h⟩
      obtain ⟨j, hj, h2⟩ := (starAny_iff _ _).1 h
      rw [List.length_take] at hj
      refine ⟨j, by omega, (mt_app_star ps _).2 ⟨i - j, by rw [List.length_drop]; omega, ?_⟩⟩
      rw [List.drop_take] at h2
      exact h2

theorem beq_true_of {a b : Bool} (h : a = true ↔ b = true) : a = b := by
  cases a <;> cases b <;> simp_all
theorem stars_end (p s x : ByteArray) (hp : p.size ≤ 60) (hs : s.size ≤ 100) (hx : x.size ≤ 100) (b : Bool) (k : Nat)
    (hb : b = true ↔ ∃ j, j ≤ s.data.toList.length ∧ mt (pts p.data.toList) (s.data.toList.take j) = true) :
    erratalaw02_TextStars.j2 (k + 1) p s x true b false = some true := by
  simp only [erratalaw02_TextStars.j2]
  have he : text_Escape.f x = some ⟨(esc x.data.toList).toArray⟩ := if_pos (by omega)
  have hel : (⟨(esc x.data.toList).toArray⟩ : ByteArray).size ≤ 200 := by
    rw [mk_size]
    have := esc_len x.data.toList
    rw [sz_toList] at this
    omega
  rw [if_neg (by decide), he]
  simp only [Option.bind_some]
  rw [if_pos (by omega), if_pos (by omega), pat_eq _ _ (by rw [ByteArray.size_append]; omega) (by rw [ByteArray.size_append]; omega), pat_eq _ _ (by omega) (by omega)]
  simp only [Option.bind_some]
  rw [app_list, app_list, pts_esc_all, mt_lits_app, bne_self_eq_false, if_neg (by decide), if_pos trivial]
  have star : p.data.toList.getLast? ≠ some 92 → text_Pattern.f (p ++ (⟨#[42]⟩ : ByteArray)) s = some b := by
    intro hl
    rw [pat_eq _ _ (by rw [ByteArray.size_append]; show p.size + 1 ≤ _; omega) (by omega), app_list]
    have e : mt (pts (p.data.toList ++ [42])) s.data.toList = b := by
      rw [pts_appF _ _ (Nat.le_refl _) hl]
      exact beq_true_of ((mt_app_star _ _).trans hb.symm)
    exact congrArg some e
  by_cases h0 : p.toList = ([] : List UInt8)
  · rw [if_pos h0, if_pos (by omega), star (by rw [← tl, h0]; simp)]
    simp
  · have hne : p.size ≠ 0 := by
      intro e
      apply h0
      rw [tl]
      exact List.eq_nil_of_length_eq_zero (by rw [sz_toList]; exact e)
    rw [if_neg h0, w64 (by omega) (by omega), if_pos (by omega), if_pos (by omega)]
    have hb0 := bt_nat p (p.size - 1) (by omega)
    rw [show ((p.size - 1 : Nat) : Int) = (p.size : Int) - 1 from by omega] at hb0
    rw [hb0]
    by_cases h92 : p[p.size - 1] = 92
    · rw [if_pos (by rw [h92]; rfl)]
    · have n92 : ¬ (p[p.size - 1].toNat : Int) = 92 := u8_ne (n := 92) h92 (by decide)
      rw [if_neg n92, if_pos (by omega), star ?_]
      · simp
      · rw [List.getLast?_eq_getElem?, sz_toList, List.getElem?_eq_getElem (by rw [sz_toList]; omega), ← get_list p (p.size - 1) (by omega)]
        intro e
        exact h92 (Option.some.inj e)
theorem stars_loop (p s x : ByteArray) (hp : p.size ≤ 60) (hs : s.size ≤ 100) (hx : x.size ≤ 100) : ∀ (d i k : Nat) (b1 b2 : Bool), s.size + 1 - i ≤ d → i ≤ s.size + 1 → d + 2 ≤ k →
    (b1 = true ↔ ∃ j, j < i ∧ mt (pts p.data.toList) (s.data.toList.drop j) = true) → (b2 = true ↔ ∃ j, j < i ∧ mt (pts p.data.toList) (s.data.toList.take j) = true) →
    erratalaw02_TextStars.l0 k p s x true b1 b2 (i : Int) = some true := by
  intro d
  induction d using Nat.strongRecOn with
  | _ d ih =>
  intro i k b1 b2 hd hi hk hb1 hb2
  obtain ⟨k, rfl⟩ : ∃ m, k = m + 1 := ⟨k - 1, by omega⟩
  simp only [erratalaw02_TextStars.l0]
  by_cases h : i ≤ s.size
  · have g1 : d - 1 < d := by clear hb1 hb2 ih; omega
    have g2 : s.size + 1 - (i + 1) ≤ d - 1 := by clear hb1 hb2 ih; omega
    have g3 : i + 1 ≤ s.size + 1 := by clear hb1 hb2 ih; omega
    have g4 : d - 1 + 2 ≤ k := by clear hb1 hb2 ih; omega
    have hw : wrap64 ((i : Int) + 1) = ((i + 1 : Nat) : Int) := by rw [w64 (by omega) (by omega)]; omega
    have hT : text_Pattern.f p (s.extract 0 (i : Int).toNat) = some (mt (pts p.data.toList) (s.data.toList.take i)) := by
      have e : (s.extract 0 (i : Int).toNat).data.toList = s.data.toList.take i := by rw [ext_list]; simp
      have e2 : (s.extract 0 (i : Int).toNat).size ≤ 1000000 := by
        rw [← sz_toList, e, List.length_take, sz_toList]; omega
      rw [pat_eq _ _ (by omega) e2, e]
    have hD : text_Pattern.f p (s.extract (i : Int).toNat s.size) = some (mt (pts p.data.toList) (s.data.toList.drop i)) := by
      have e : (s.extract (i : Int).toNat s.size).data.toList = s.data.toList.drop i := by rw [ext_end]; simp
      have e2 : (s.extract (i : Int).toNat s.size).size ≤ 1000000 := by
        rw [← sz_toList, e, List.length_drop, sz_toList]; omega
      rw [pat_eq _ _ (by omega) e2, e]
    have nx : ∀ (g : List UInt8 → Bool) (f : Nat → List UInt8) (b c : Bool), (b = true ↔ ∃ j, j < i ∧ g (f j) = true) → ((b || g (f i)) = c) → (c = true ↔ ∃ j, j < i + 1 ∧ g (f j) = true) := by
      intro g f b c hb hc
      rw [← hc, Bool.or_eq_true, hb]
      constructor
      · rintro (⟨j, hj, hg⟩ | hg)
        · exact ⟨j, by omega, hg⟩
        · exact ⟨i, by omega, hg⟩
      · rintro ⟨j, hj, hg⟩
        by_cases e : j = i
        · subst e; exact .inr hg
        · exact .inl ⟨j, by omega, hg⟩
    rw [if_pos (by omega)]
    have go : ∀ c1 c2, (b1 || mt (pts p.data.toList) (s.data.toList.drop i)) = c1 → (b2 || mt (pts p.data.toList) (s.data.toList.take i)) = c2 → erratalaw02_TextStars.l0 k p s x true c1 c2 (wrap64 ((i : Int) + 1)) = some true := by
      intro c1 c2 e1 e2
      rw [hw]
      exact ih (d - 1) g1 (i + 1) k c1 c2 g2 g3 g4 (nx (mt (pts p.data.toList)) (fun j => s.data.toList.drop j) b1 c1 hb1 e1) (nx (mt (pts p.data.toList)) (fun j => s.data.toList.take j) b2 c2 hb2 e2)
    cases b1 with
    | true =>
      first | rw [if_pos trivial] | rw [if_pos rfl]
      cases b2 with
      | true =>
        first | rw [if_pos trivial] | rw [if_pos rfl]
        exact go _ _ rfl rfl
      | false =>
        rw [if_neg (by decide), if_pos (by omega), hT]
        simp only [Option.bind_some]
        exact go _ _ rfl (by simp)
    | false =>
      rw [if_neg (by decide), if_pos (by omega), hD]
      simp only [Option.bind_some]
      cases b2 with
      | true =>
        first | rw [if_pos trivial] | rw [if_pos rfl]
        exact go _ _ (by simp) rfl
      | false =>
        rw [if_neg (by decide), hT]
        simp only [Option.bind_some]
        exact go _ _ (by simp) (by simp)
  · have hi' : i = s.size + 1 := by omega
    subst hi'
    obtain ⟨k, rfl⟩ : ∃ m, k = m + 1 := ⟨k - 1, by omega⟩
    have hend : erratalaw02_TextStars.j2 (k + 1) p s x true b2 false = some true := by
      refine stars_end p s x hp hs hx b2 k (hb2.trans ?_)
      constructor
      · rintro ⟨j, hj, hm⟩; exact ⟨j, by rw [sz_toList]; omega, hm⟩
      · rintro ⟨j, hj, hm⟩; exact ⟨j, by rw [sz_toList] at hj; omega, hm⟩
    have e1 : mt (pts (42 :: p.data.toList)) s.data.toList = b1 := by
      rw [pts_star]
      refine beq_true_of ((starAny_iff _ _).trans (Iff.trans ?_ hb1.symm))
      constructor
      · rintro ⟨j, hj, hm⟩; exact ⟨j, by rw [sz_toList] at hj; omega, hm⟩
      · rintro ⟨j, hj, hm⟩; exact ⟨j, by rw [sz_toList]; omega, hm⟩
    rw [if_neg (by omega), if_pos (by omega), pat_eq _ _ (by rw [ByteArray.size_append]; show 1 + p.size ≤ _; omega) (by omega), app_list]
    simp only [Option.bind_some]
    have e1' : mt (pts ((⟨#[42]⟩ : ByteArray).data.toList ++ p.data.toList)) s.data.toList = b1 := e1
    rw [e1', bne_self_eq_false, if_neg (by decide), pat_eq _ _ (by rw [ByteArray.size_append]; show 1 + p.size ≤ _; omega) (by omega), app_list]
    simp only [Option.bind_some]
    have e2 : pts ((⟨#[63]⟩ : ByteArray).data.toList ++ p.data.toList) = some (fun _ => true) :: pts p.data.toList := pts_any _
    rw [e2]
    by_cases h0 : s.toList = ([] : List UInt8)
    · rw [if_pos h0]
      rw [tl] at h0
      rw [h0]
      exact hend
    · rw [if_neg h0]
      have hne : 1 ≤ s.size := by
        have : s.size ≠ 0 := by
          intro e
          apply h0
          rw [tl]
          exact List.eq_nil_of_length_eq_zero (by rw [sz_toList]; exact e)
        omega
      have hmn : mn 1 (s.size : Int) = 1 := by
        unfold mn
        first
        | exact if_pos (by omega)
        | exact min_eq_left (by omega)
        | omega
      rw [hmn, if_pos (by omega), if_pos (by omega)]
      have e : (s.extract (1 : Int).toNat s.size).data.toList = s.data.toList.drop 1 := by rw [ext_end]; rfl
      have e3 : (s.extract (1 : Int).toNat s.size).size ≤ 1000000 := by
        rw [← sz_toList, e, List.length_drop, sz_toList]; omega
      rw [pat_eq _ _ (by omega) e3, e]
      simp only [Option.bind_some]
      have e4 : mt (some (fun _ => true) :: pts p.data.toList) s.data.toList = mt (pts p.data.toList) (s.data.toList.drop 1) := by
        cases hq : s.data.toList with
        | nil => rw [← sz_toList, hq] at hne; simp at hne
        | cons c r =>
          show (true && mt (pts p.data.toList) r) = _
          rfl
      rw [e4, bne_self_eq_false]
      exact hend

theorem TextStars_pure (a0 a1 a2 : ByteArray) : erratalaw02_TextStars.f 400 a0 a1 a2 = some true := by
  unfold erratalaw02_TextStars.f
  rw [small_true 400 (by decide)]
  simp only [Option.bind_some]
  have out : erratalaw02_TextStars.j0 400 a0 a1 a2 true true = some true := by
    rw [show (400 : Nat) = 399 + 1 from rfl]
    simp only [erratalaw02_TextStars.j0]
    first | rw [if_pos trivial] | rw [if_pos rfl]
  by_cases h0 : a0.size ≤ 60
  · rw [if_neg (by omega)]
    by_cases h1 : a1.size ≤ 100
    · rw [if_neg (by omega)]
      by_cases h2 : a2.size ≤ 100
      · rw [decide_eq_false (show ¬ (a2.size : Int) > 100 by omega), show (400 : Nat) = 399 + 1 from rfl]
        simp only [erratalaw02_TextStars.j0]
        rw [if_neg (by decide)]
        exact stars_loop a0 a1 a2 h0 h1 h2 (a1.size + 1) 0 399 false false (by omega) (by omega) (by omega) (by simp) (by simp)
      · rw [decide_eq_true (show (a2.size : Int) > 100 by omega), out]
    · rw [if_pos (by omega), out]
  · rw [if_pos (by omega), out]
theorem TextStars_ex (a0 a1 a2 : ByteArray) (w0 : a0.size ≤ 140737488351232) (w1 : a1.size ≤ 140737488351232) (w2 : a2.size ≤ 140737488351232) : ∃ k, erratalaw02_TextStars.f k a0 a1 a2 = some true := ⟨_, TextStars_pure a0 a1 a2⟩
end Go.Proofs.YtfefbnfmngdicaaDoor.PX
