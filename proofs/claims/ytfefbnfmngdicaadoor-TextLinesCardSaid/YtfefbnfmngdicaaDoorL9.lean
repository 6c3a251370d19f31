/- Lines and fields, plainly: what strings.Split at an LF and strings.FieldsFunc at the white bytes give, as functions of the bytes, and how they fit together. No program in sight. -/
import Derived.Test.YtfefbnfmngdicaaDoorE3
import Derived.Test.YtfefbnfmngdicaaDoorW2
import Derived.Test.YtfefbnfmngdicaaDoorL3
import Derived.Lib.SplitLaws
import Derived.Lib.TrimU
import Derived.Lib.TrimUEq
namespace Go.Proofs.YtfefbnfmngdicaaDoor.PX
set_option linter.unusedVariables false
set_option linter.unusedSimpArgs false

/-! ### Lines -/
/-- What stands between the LFs. -/
def spl : List UInt8 → List (List UInt8)
  | [] => [[]]
  | c :: r => if c = 10 then [] :: spl r else match spl r with
    | [] => [[c]]
    | h :: t => (c :: h) :: t
theorem spl_ne (l : List UInt8) : spl l ≠ [] := by
  cases l with
  | nil => simp [spl]
  | cons c r =>
    unfold spl
    split
    · simp
    · split <;> simp
theorem spl_lf (r : List UInt8) : spl (10 :: r) = [] :: spl r := if_pos rfl
theorem spl_cons (c : UInt8) (r h : List UInt8) (t : List (List UInt8)) (hc : c ≠ 10) (hr : spl r = h :: t) : spl (c :: r) = (c :: h) :: t := by
  rw [spl, if_neg hc, hr]
theorem index_lf (r : List UInt8) : Lib.index (10 :: r) [10] = 0 := by
  rw [Lib.index, if_pos (by simp [List.isPrefixOf])]
theorem index_ne (c : UInt8) (r : List UInt8) (h : c ≠ 10) : Lib.index (c :: r) [10] = if Lib.index r [10] == -1 then -1 else Lib.index r [10] + 1 := by
  rw [Lib.index, if_neg]
  simp only [List.isPrefixOf, Bool.and_true, beq_iff_eq]
  exact fun e => h e.symm
theorem splitK_spl : ∀ (s : List UInt8), Lib.splitK [10] 0 (Lib.count s [10]) s = spl s
  | [] => rfl
  | c :: r => by
    have ih := splitK_spl r
    by_cases h : c = 10
    · subst h
      rw [Lib.count_cons_eq, Nat.add_comm, Lib.splitK, index_lf, spl_lf, ← ih]
      rfl
    · rw [Lib.count_cons_ne _ _ _ h]
      cases hk : Lib.count r [10] with
      | zero =>
        rw [hk] at ih
        exact (spl_cons c r r [] h ih.symm).symm
      | succ k =>
        rw [hk] at ih
        rw [Lib.splitK] at ih ⊢
        rw [index_ne c r h]
        by_cases hi : Lib.index r [10] = -1
        · rw [hi] at ih ⊢
          exact (spl_cons c r r [] h ih.symm).symm
        · have hi2 : ¬ (Lib.index r [10] == -1) = true := fun e => hi (beq_iff_eq.1 e)
          have hg := Lib.index_ge r [10]
          have hi3 : ¬ (Lib.index r [10] + 1 == -1) = true := fun e => by have := beq_iff_eq.1 e; omega
          rw [if_neg hi2] at ih ⊢
          rw [if_neg hi3]
          have e1 : (Lib.index r [10] + 1).toNat = (Lib.index r [10]).toNat + 1 := by omega
          rw [e1, spl_cons c r _ _ h ih.symm]
          rfl
/-- The bytes as a string. -/
def mk (l : List UInt8) : ByteArray := ⟨l.toArray⟩
theorem mk_list (l : List UInt8) : (mk l).data.toList = l := rfl
theorem mk_of (s : ByteArray) : mk s.data.toList = s := by cases s; rfl
theorem mk_len (l : List UInt8) : (mk l).size = l.length := by unfold mk; rw [ByteArray.size, List.size_toArray]
theorem splitB_spl (s : ByteArray) : Lib.splitB ⟨#[10]⟩ 0 (Lib.countB s ⟨#[10]⟩) s = (spl s.data.toList).map mk := by
  have h := Lib.splitB_data ⟨#[10]⟩ 0 (Lib.countB s ⟨#[10]⟩) s
  have e : Lib.countB s ⟨#[10]⟩ = Lib.count s.data.toList [10] := rfl
  rw [e] at h ⊢
  have e2 : Lib.splitK (⟨#[10]⟩ : ByteArray).data.toList 0 (Lib.count s.data.toList [10]) s.data.toList = spl s.data.toList := splitK_spl _
  rw [e2] at h
  rw [← h, List.map_map]
  refine (List.map_id _).symm.trans (List.map_congr_left fun x _ => ?_)
  exact (mk_of x).symm

/-- Without one LF at the end. -/
def trm (l : List UInt8) : List UInt8 := Lib.trimSuffix l [10]
theorem trm_snoc (l : List UInt8) : trm (l ++ [10]) = l := by
  unfold trm Lib.trimSuffix
  rw [if_pos]
  · simp
  · unfold Lib.hasSuffix
    rw [List.isSuffixOf_iff_suffix]
    exact ⟨l, rfl⟩
theorem trm_other (l : List UInt8) (h : l.getLast? ≠ some 10) : trm l = l := by
  unfold trm Lib.trimSuffix
  rw [if_neg]
  unfold Lib.hasSuffix
  rw [List.isSuffixOf_iff_suffix]
  rintro ⟨t, rfl⟩
  exact h (by simp)
theorem last_split (l : List UInt8) (h : l.getLast? = some 10) : ∃ t, l = t ++ [10] := by
  obtain ⟨t, ht⟩ := List.getLast?_eq_some_iff.1 h
  exact ⟨t, ht⟩
/-- The lines of a text. -/
def lns (l : List UInt8) : List (List UInt8) := if l = [] then [] else spl (trm l)
theorem lines_eq (s : ByteArray) (h : s.size ≤ 1000000) : text_Lines.f s = some ((lns s.data.toList).map mk) := by
  unfold text_Lines.f lns
  rw [if_pos h]
  by_cases hn : s.data.toList = []
  · rw [if_pos hn, if_pos hn]; rfl
  · rw [if_neg hn, if_neg hn]
    have := splitB_spl ⟨(Lib.trimSuffix s.data.toList [10]).toArray⟩
    exact congrArg some this

/-- Each with an LF behind it. -/
def ends (l : List (List UInt8)) : List UInt8 := l.flatMap fun x => x ++ [10]
theorem unl_ends (l : List (List UInt8)) : unl (l.map mk) = ends l := by
  unfold unl ends
  rw [List.flatMap_map]
  rfl
theorem ends_cons (x : List UInt8) (l : List (List UInt8)) : ends (x :: l) = x ++ 10 :: ends l := by simp [ends]
theorem ends_spl : ∀ (t : List UInt8), ends (spl t) = t ++ [10]
  | [] => rfl
  | c :: r => by
    have ih := ends_spl r
    by_cases h : c = 10
    · subst h
      rw [spl_lf, ends_cons, ih]
      rfl
    · cases hs : spl r with
      | nil => exact absurd hs (spl_ne r)
      | cons a b =>
        rw [spl_cons c r a b h hs, ends_cons]
        rw [hs, ends_cons] at ih
        show c :: (a ++ 10 :: ends b) = c :: (r ++ [10])
        rw [ih]
theorem spl_app : ∀ (a b : List UInt8), (∀ c ∈ a, c ≠ 10) → spl (a ++ 10 :: b) = a :: spl b
  | [], b, _ => spl_lf b
  | c :: a, b, h => by
    rw [List.cons_append]
    exact spl_cons c _ a (spl b) (h c (by simp)) (spl_app a b fun x hx => h x (by simp [hx]))
theorem spl_one : ∀ (a : List UInt8), (∀ c ∈ a, c ≠ 10) → spl a = [a]
  | [], _ => rfl
  | c :: a, h => spl_cons c a a [] (h c (by simp)) (spl_one a fun x hx => h x (by simp [hx]))
theorem spl_ends : ∀ (x : List UInt8) (l : List (List UInt8)), (∀ y ∈ x :: l, ∀ c ∈ y, c ≠ 10) → ∃ t, ends (x :: l) = t ++ [10] ∧ spl t = x :: l
  | x, [], h => ⟨x, by simp [ends], spl_one x (h x (by simp))⟩
  | x, y :: l, h => by
    obtain ⟨t, h1, h2⟩ := spl_ends y l fun z hz => h z (by simp [List.mem_cons.1 hz])
    refine ⟨x ++ 10 :: t, ?_, ?_⟩
    · rw [ends_cons, h1]
      simp
    · rw [spl_app x t (h x (by simp)), h2]
/-- Lines inverts Unlines. -/
theorem lns_ends (l : List (List UInt8)) (h : ∀ y ∈ l, ∀ c ∈ y, c ≠ 10) : lns (ends l) = l := by
  cases l with
  | nil => rfl
  | cons x l =>
    obtain ⟨t, h1, h2⟩ := spl_ends x l h
    unfold lns
    rw [h1, if_neg (by simp), trm_snoc, h2]
theorem spl_no : ∀ (t : List UInt8), ∀ y ∈ spl t, ∀ c ∈ y, c ≠ 10
  | [], y, hy, c, hc => by
    rw [spl, List.mem_singleton] at hy
    subst hy
    cases hc
  | d :: r, y, hy, c, hc => by
    have ih := spl_no r
    by_cases h : d = 10
    · subst h
      rw [spl_lf] at hy
      rcases List.mem_cons.1 hy with e | e
      · subst e; cases hc
      · exact ih y e c hc
    · cases hs : spl r with
      | nil => exact absurd hs (spl_ne r)
      | cons a b =>
        rw [spl_cons d r a b h hs] at hy
        rw [hs] at ih
        rcases List.mem_cons.1 hy with e | e
        · subst e
          rcases List.mem_cons.1 hc with e | e
          · subst e; exact h
          · exact ih a (by simp) c e
        · exact ih y (by simp [e]) c hc
theorem lns_no (l : List UInt8) : ∀ y ∈ lns l, ∀ c ∈ y, c ≠ 10 := by
  unfold lns
  split
  · intro y hy; cases hy
  · exact spl_no _
/-- With an LF at the end. -/
def fin10 (l : List UInt8) : List UInt8 := if l = [] ∨ l.getLast? = some 10 then l else l ++ [10]
theorem ends_lns (l : List UInt8) : ends (lns l) = fin10 l := by
  unfold lns fin10
  by_cases h : l = []
  · rw [if_pos h, if_pos (.inl h), h]; rfl
  · rw [if_neg h, ends_spl]
    by_cases hl : l.getLast? = some 10
    · rw [if_pos (.inr hl)]
      obtain ⟨t, rfl⟩ := last_split l hl
      rw [trm_snoc]
    · rw [if_neg (by rintro (e | e); exact h e; exact hl e), trm_other l hl]

/-! ### Fields -/
def whB (b : UInt8) : Bool := b == 32 || b == 9 || b == 10
def flG : Option (List UInt8) → List UInt8 → List (List UInt8)
  | c, [] => c.toList
  | c, b :: r => if whB b then c.toList ++ flG none r else flG (some (c.getD [] ++ [b])) r
/-- The fields of a text. -/
def fld (l : List UInt8) : List (List UInt8) := flG none l
theorem flG_white (c : Option (List UInt8)) (b : UInt8) (r : List UInt8) (h : whB b = true) : flG c (b :: r) = c.toList ++ flG none r := if_pos h
theorem flG_other (c : Option (List UInt8)) (b : UInt8) (r : List UInt8) (h : whB b = false) : flG c (b :: r) = flG (some (c.getD [] ++ [b])) r := by rw [flG, if_neg (by rw [h]; decide)]
theorem flG_run : ∀ (x : List UInt8) (c : List UInt8) (r : List UInt8), (∀ b ∈ x, whB b = false) → flG (some c) (x ++ r) = flG (some (c ++ x)) r
  | [], c, r, _ => by simp
  | b :: x, c, r, h => by
    rw [List.cons_append, flG_other _ _ _ (h b (by simp)), Option.getD_some, flG_run x _ r fun y hy => h y (by simp [hy])]
    simp
theorem flG_run0 (x : List UInt8) (c : Option (List UInt8)) (r : List UInt8) (hx : x ≠ []) (h : ∀ b ∈ x, whB b = false) : flG c (x ++ r) = flG (some (c.getD [] ++ x)) r := by
  cases x with
  | nil => exact absurd rfl hx
  | cons b x =>
    rw [List.cons_append, flG_other _ _ _ (h b (by simp)), flG_run x _ r fun y hy => h y (by simp [hy])]
    simp
theorem flG_app : ∀ (a b : List UInt8) (c : Option (List UInt8)) (w : UInt8), whB w = true → flG c (a ++ w :: b) = flG c a ++ flG none b
  | [], b, c, w, h => flG_white c w b h
  | d :: a, b, c, w, h => by
    rw [List.cons_append]
    cases hd : whB d with
    | true => rw [flG_white _ _ _ hd, flG_white _ _ _ hd, flG_app a b none w h, List.append_assoc]
    | false => rw [flG_other _ _ _ hd, flG_other _ _ _ hd, flG_app a b _ w h]
theorem flG_snoc (a : List UInt8) (c : Option (List UInt8)) : flG c (a ++ [10]) = flG c a := by
  rw [flG_app a [] c 10 rfl]
  exact List.append_nil _
theorem fld_ends : ∀ (l : List (List UInt8)), fld (ends l) = l.flatMap fld
  | [] => rfl
  | x :: l => by
    rw [ends_cons]
    show flG none (x ++ 10 :: ends l) = _
    rw [flG_app _ _ _ _ rfl]
    show flG none x ++ fld (ends l) = _
    rw [fld_ends l]
    rfl
theorem fld_fin (l : List UInt8) : fld (fin10 l) = fld l := by
  unfold fin10
  split
  · rfl
  · exact flG_snoc l none
/-- The fields of a text are those of its lines one after the other. -/
theorem fld_lns (l : List UInt8) : (lns l).flatMap fld = fld l := by
  rw [← fld_ends, ends_lns, fld_fin]
theorem flG_good : ∀ (l : List UInt8) (c : Option (List UInt8)), (∀ x, c = some x → x ≠ [] ∧ ∀ b ∈ x, whB b = false) → ∀ y ∈ flG c l, y ≠ [] ∧ ∀ b ∈ y, whB b = false
  | [], c, h, y, hy => by
    cases c with
    | none => cases hy
    | some x =>
      have : y = x := by simpa [flG] using hy
      subst this
      exact h y rfl
  | d :: l, c, h, y, hy => by
    cases hd : whB d with
    | true =>
      rw [flG_white _ _ _ hd] at hy
      rcases List.mem_append.1 hy with e | e
      · cases c with
        | none => cases e
        | some x =>
          have : y = x := by simpa using e
          subst this
          exact h y rfl
      · exact flG_good l none (fun x hx => by cases hx) y e
    | false =>
      rw [flG_other _ _ _ hd] at hy
      refine flG_good l _ ?_ y hy
      intro x hx
      have e := Option.some.inj hx
      subst e
      refine ⟨by simp, ?_⟩
      intro b hb
      rcases List.mem_append.1 hb with e | e
      · cases c with
        | none => cases e
        | some z => exact (h z rfl).2 b (by simpa using e)
      · rw [List.mem_singleton.1 e]; exact hd
theorem fld_good (l : List UInt8) : ∀ y ∈ fld l, y ≠ [] ∧ ∀ b ∈ y, whB b = false := flG_good l none fun x hx => by cases hx

/-! What FieldsFunc at the white runes does. -/
theorem decN_low (n b0 b1 b2 b3 : Nat) (h : b0 < 128) : Lib.decodeN n b0 b1 b2 b3 = (b0, 1) := if_pos h
theorem decN_high (n b0 b1 b2 b3 : Nat) (h : 128 ≤ b0) (hn : 1 ≤ n) : 128 ≤ (Lib.decodeN n b0 b1 b2 b3).1 ∧ 1 ≤ (Lib.decodeN n b0 b1 b2 b3).2 ∧ (Lib.decodeN n b0 b1 b2 b3).2 ≤ n ∧
    (2 ≤ (Lib.decodeN n b0 b1 b2 b3).2 → 128 ≤ b1) ∧ (3 ≤ (Lib.decodeN n b0 b1 b2 b3).2 → 128 ≤ b2) ∧ (4 ≤ (Lib.decodeN n b0 b1 b2 b3).2 → 128 ≤ b3) ∧ (Lib.decodeN n b0 b1 b2 b3).2 ≤ 4 := by
  unfold Lib.decodeN
  repeat' split
  all_goals simp only
  all_goals omega
theorem wht_high (x : Nat) (h : 128 ≤ x) : wht x = false := by
  unfold wht
  simp only [Bool.or_eq_false_iff, beq_eq_false_iff_ne]
  omega
theorem wht_low (b : UInt8) : wht b.toNat = whB b := by
  unfold wht whB
  have e : ∀ n, n < 256 → (b.toNat == n) = (b == UInt8.ofNat n) := by
    intro n hn
    rw [Bool.eq_iff_iff, beq_iff_eq, beq_iff_eq]
    constructor
    · intro h
      exact UInt8.toNat_inj.1 (by rw [h]; simp; omega)
    · intro h
      rw [h]; simp; omega
  rw [e 32 (by decide), e 9 (by decide), e 10 (by decide)]
  rfl
theorem whB_high (b : UInt8) (h : 128 ≤ b.toNat) : whB b = false := by
  rw [← wht_low]
  exact wht_high _ h
/-- A span's piece. -/
def pc (l : List UInt8) (x : Nat × Nat) : List UInt8 := (l.drop x.1).take (x.2 - x.1)
theorem pc_more (l : List UInt8) (a pos w : Nat) (h : a ≤ pos) : (l.drop a).take (pos + w - a) = (l.drop a).take (pos - a) ++ (l.drop pos).take w := by
  rw [show pos + w - a = (pos - a) + w by omega, List.take_add, List.drop_drop, show a + (pos - a) = pos by omega]
theorem run_high (s : ByteArray) (pos w : Nat) (hw : w ≤ 4) (h0 : 128 ≤ (s.get! pos).toNat) (h1 : 2 ≤ w → 128 ≤ (s.get! (pos + 1)).toNat) (h2 : 3 ≤ w → 128 ≤ (s.get! (pos + 2)).toNat) (h3 : 4 ≤ w → 128 ≤ (s.get! (pos + 3)).toNat) :
    ∀ b ∈ (s.data.toList.drop pos).take w, whB b = false := by
  intro b hb
  obtain ⟨j, hj, e⟩ := List.mem_iff_getElem.1 hb
  rw [List.length_take] at hj
  rw [List.getElem_take, List.getElem_drop] at e
  have hl : pos + j < s.data.toList.length := by
    rw [List.length_drop] at hj
    omega
  have e2 : s.get! (pos + j) = b := by
    rw [← Lib.getD_get!' s (pos + j), List.getD_eq_getElem?_getD, List.getElem?_eq_getElem hl, Option.getD_some, e]
  apply whB_high
  rw [← e2]
  have hc : j = 0 ∨ j = 1 ∨ j = 2 ∨ j = 3 := by omega
  rcases hc with rfl | rfl | rfl | rfl
  · exact h0
  · exact h1 (by omega)
  · exact h2 (by omega)
  · exact h3 (by omega)
theorem spans_fld (s : ByteArray) : ∀ (f pos : Nat) (st : Option Nat) (acc : List (Nat × Nat)), s.size - pos ≤ f → pos ≤ s.size → (∀ a, st = some a → a ≤ pos) →
    (Lib.closeSpans s (Lib.spansFromP wht s f pos st acc)).map (pc s.data.toList) = acc.map (pc s.data.toList) ++ flG (st.map fun a => pc s.data.toList (a, pos)) (s.data.toList.drop pos) := by
  intro f
  induction f with
  | zero =>
    intro pos st acc hf hp hst
    have : pos = s.size := by omega
    subst this
    rw [Lib.spansFromP_end _ _ _ _ _ _ (by omega), List.drop_of_length_le (by rw [sz_toList]; exact Nat.le_refl _)]
    cases st with
    | none => simp [Lib.closeSpans, flG]
    | some a => simp [Lib.closeSpans, flG]
  | succ f ih =>
    intro pos st acc hf hp hst
    by_cases h : pos < s.size
    · have hlt : pos < s.data.toList.length := by rw [sz_toList]; exact h
      have hb : s.get! pos = s.data.toList[pos] := by
        rw [← Lib.getD_get!' s pos, List.getD_eq_getElem?_getD, List.getElem?_eq_getElem hlt, Option.getD_some]
      have hd : s.data.toList.drop pos = s.data.toList[pos] :: s.data.toList.drop (pos + 1) := List.drop_eq_getElem_cons hlt
      have other : ∀ w, 1 ≤ w → pos + w ≤ s.size → (∀ b ∈ (s.data.toList.drop pos).take w, whB b = false) →
          (Lib.closeSpans s (match st with
            | some a => Lib.spansFromP wht s f (pos + w) (some a) acc
            | none => Lib.spansFromP wht s f (pos + w) (some pos) acc)).map (pc s.data.toList) = acc.map (pc s.data.toList) ++ flG (st.map fun a => pc s.data.toList (a, pos)) (s.data.toList.drop pos) := by
        intro w hw1 hw2 hx
        have hr : s.data.toList.drop pos = (s.data.toList.drop pos).take w ++ s.data.toList.drop (pos + w) := by
          rw [← List.drop_drop, List.take_append_drop]
        have hne : (s.data.toList.drop pos).take w ≠ [] := by
          intro e
          have := congrArg List.length e
          rw [List.length_take, List.length_drop, sz_toList] at this
          simp at this
          omega
        cases st with
        | some a =>
          simp only
          rw [ih (pos + w) (some a) acc (by omega) hw2 (fun b hb => by have := hst b hb; omega)]
          conv => rhs; rw [hr]
          rw [flG_run0 _ _ _ hne hx]
          have e := pc_more s.data.toList a pos w (hst a rfl)
          simp only [Option.map_some, Option.getD_some, pc]
          rw [e]
        | none =>
          simp only
          rw [ih (pos + w) (some pos) acc (by omega) hw2 (fun b hb => by cases hb; omega)]
          conv => rhs; rw [hr]
          rw [flG_run0 _ _ _ hne hx]
          simp only [Option.map_some, Option.map_none, Option.getD_none, pc, List.nil_append]
          rw [show pos + w - pos = w by omega]
      unfold Lib.spansFromP
      rw [if_pos h, Lib.decode_at]
      by_cases hlow : (s.get! pos).toNat < 128
      · rw [decN_low _ _ _ _ _ hlow]
        simp only
        rw [wht_low, hb]
        cases hw : whB s.data.toList[pos] with
        | true =>
          rw [if_pos rfl, hd, flG_white _ _ _ hw]
          cases st with
          | some a =>
            simp only
            rw [ih (pos + 1) none _ (by omega) (by omega) (fun b hb => by cases hb)]
            simp
          | none =>
            simp only
            rw [ih (pos + 1) none _ (by omega) (by omega) (fun b hb => by cases hb)]
            simp
        | false =>
          rw [if_neg (by decide)]
          refine Eq.trans (by cases st <;> rfl) (other 1 (Nat.le_refl _) (by omega) ?_)
          rw [hd]
          intro b hb2
          have : b = s.data.toList[pos] := by simpa using hb2
          rw [this]
          exact hw
      · obtain ⟨g1, g2, g3, g4, g5, g6, g7⟩ := decN_high (s.size - pos) (s.get! pos).toNat (s.get! (pos + 1)).toNat (s.get! (pos + 2)).toNat (s.get! (pos + 3)).toNat (by omega) (by omega)
        rw [wht_high _ g1, if_neg (by decide)]
        exact Eq.trans (by cases st <;> rfl) (other _ g2 (by omega) (run_high s pos _ g7 (by omega) g4 g5 g6))
    · have : pos = s.size := by omega
      subst this
      rw [Lib.spansFromP_end _ _ _ _ _ _ (by omega), List.drop_of_length_le (by rw [sz_toList]; exact Nat.le_refl _)]
      cases st with
      | none => simp [Lib.closeSpans, flG]
      | some a => simp [Lib.closeSpans, flG]
theorem fields_eq (s : ByteArray) (h : s.size ≤ 1000000) : text_Fields.f s = some ((fld s.data.toList).map mk) := by
  unfold text_Fields.f
  rw [if_pos h]
  congr 1
  unfold Lib.goFieldsP Lib.spansOfP
  have hs := spans_fld s s.size 0 none [] (by omega) (Nat.zero_le _) (fun a ha => by cases ha)
  have e : fld s.data.toList = (Lib.closeSpans s (Lib.spansFromP wht s s.size 0 none [])).map (pc s.data.toList) := by rw [hs]; rfl
  rw [e, List.map_map]
  refine List.map_congr_left fun x _ => ?_
  exact ext_mk s x.1 x.2
end Go.Proofs.YtfefbnfmngdicaaDoor.PX
