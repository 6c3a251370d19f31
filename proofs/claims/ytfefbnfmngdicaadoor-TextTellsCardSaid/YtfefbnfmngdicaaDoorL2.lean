/- Patterns, plainly: the parts of a pattern, what they match, and that the search with one remembered star finds it. No program in sight. -/
import Derived.Test.YtfefbnfmngdicaaDoorPlain
namespace Go.Proofs.YtfefbnfmngdicaaDoor.PX
set_option linter.unusedVariables false
set_option linter.unusedSimpArgs false

/-- A part: a test of one byte, or (none) a star. -/
abbrev Pt := Option (UInt8 → Bool)

def findB : List UInt8 → Option Nat
  | [] => none
  | c :: r => if c = 93 then some 0 else (findB r).map (· + 1)
theorem findB_lt : ∀ (l : List UInt8) (n : Nat), findB l = some n → n < l.length
  | [], n, h => by simp [findB] at h
  | c :: r, n, h => by
    unfold findB at h
    split at h
    · simp at h; subst h; simp
    · cases hr : findB r with
      | none => simp [hr] at h
      | some m =>
        have := findB_lt r m hr
        simp [hr] at h
        simp only [List.length_cons]
        omega
/-- The place of the first ] after at least one byte. -/
def closeAt : List UInt8 → Option Nat
  | [] => none
  | _ :: r => (findB r).map (· + 1)
theorem closeAt_lt (l : List UInt8) (n : Nat) (h : closeAt l = some n) : n < l.length ∧ 1 ≤ n := by
  cases l with
  | nil => simp [closeAt] at h
  | cons c r =>
    cases hr : findB r with
    | none => simp [closeAt, hr] at h
    | some m =>
      have := findB_lt r m hr
      simp [closeAt, hr] at h
      simp only [List.length_cons]
      omega
/-- A class, of what stands behind its [: where its ] stands, whether it is a negation, its set. -/
def cls (r : List UInt8) : Option (Nat × Bool × List UInt8) :=
  match (if r.head? = some 33 then closeAt (r.drop 1) else none) with
  | some n => some (n + 1, true, (r.drop 1).take n)
  | none => (closeAt r).map fun n => (n, false, r.take n)
theorem cls_lt (r : List UInt8) (n : Nat) (b : Bool) (set : List UInt8) (h : cls r = some (n, b, set)) : n < r.length := by
  unfold cls at h
  split at h
  · rename_i m hm
    simp at h
    split at hm
    · have := (closeAt_lt _ _ hm).1
      simp only [List.length_drop] at this
      omega
    · cases hm
  · cases hc : closeAt r with
    | none => simp [hc] at h
    | some m =>
      have := (closeAt_lt _ _ hc).1
      simp [hc] at h
      omega

def inSet : List UInt8 → UInt8 → Bool
  | [], _ => false
  | [a], x => a == x
  | [a, d], x => a == x || d == x
  | a :: d :: b :: r, x => if d = 45 then (decide (a.toNat ≤ x.toNat) && decide (x.toNat ≤ b.toNat)) || inSet r x else a == x || inSet (d :: b :: r) x

/-- The first part of a pattern, and how many bytes it takes. -/
def part1 : List UInt8 → Pt × Nat
  | [] => (none, 1)
  | c :: r =>
    if c = 92 then (match r with
      | [] => (some fun x => x == 92, 1)
      | d :: _ => (some fun x => x == d, 2))
    else if c = 42 then (none, 1)
    else if c = 63 then (some fun _ => true, 1)
    else if c = 91 then (match cls r with
      | some (n, neg, set) => (some fun x => inSet set x != neg, n + 2)
      | none => (some fun x => x == 91, 1))
    else (some fun x => x == c, 1)
theorem part1_none (r : List UInt8) (h : cls r = none) : part1 (91 :: r) = (some fun x => x == 91, 1) := by
  simp only [part1]
  rw [if_neg (by decide), if_neg (by decide), if_neg (by decide), if_pos trivial, h]
theorem part1_some (r : List UInt8) (n : Nat) (neg : Bool) (set : List UInt8) (h : cls r = some (n, neg, set)) : part1 (91 :: r) = (some fun x => inSet set x != neg, n + 2) := by
  simp only [part1]
  rw [if_neg (by decide), if_neg (by decide), if_neg (by decide), if_pos trivial, h]
theorem part1_byte (c : UInt8) (r : List UInt8) (h92 : c ≠ 92) (h42 : c ≠ 42) (h63 : c ≠ 63) (h91 : c ≠ 91) : part1 (c :: r) = (some fun x => x == c, 1) := by
  simp only [part1]
  rw [if_neg h92, if_neg h42, if_neg h63, if_neg h91]
theorem part1_pos (l : List UInt8) : 1 ≤ (part1 l).2 := by
  unfold part1
  repeat' split
  all_goals simp
theorem part1_le (l : List UInt8) (h : l ≠ []) : (part1 l).2 ≤ l.length := by
  unfold part1
  repeat' split
  all_goals simp_all
  rename_i hc
  exact cls_lt _ _ _ _ hc
def ptsF : Nat → List UInt8 → List Pt
  | 0, _ => []
  | k + 1, l => if l = [] then [] else (part1 l).1 :: ptsF k (l.drop (part1 l).2)
theorem ptsF_eq : ∀ (k k' : Nat) (l : List UInt8), l.length ≤ k → l.length ≤ k' → ptsF k l = ptsF k' l
  | 0, 0, _, _, _ => rfl
  | 0, k' + 1, l, h, _ => by
    have : l = [] := List.eq_nil_of_length_eq_zero (by omega)
    simp [ptsF, this]
  | k + 1, 0, l, _, h => by
    have : l = [] := List.eq_nil_of_length_eq_zero (by omega)
    simp [ptsF, this]
  | k + 1, k' + 1, l, h, h' => by
    unfold ptsF
    split
    · rfl
    · have := part1_pos l
      rw [ptsF_eq k k' _ (by rw [List.length_drop]; omega) (by rw [List.length_drop]; omega)]
/-- The parts of a pattern. -/
def pts (l : List UInt8) : List Pt := ptsF l.length l
theorem pts_nil : pts [] = [] := rfl
theorem pts_cons (l : List UInt8) (h : l ≠ []) : pts l = (part1 l).1 :: pts (l.drop (part1 l).2) := by
  have h1 : 1 ≤ l.length := by cases l with | nil => exact absurd rfl h | cons c r => simp
  have h2 := part1_pos l
  unfold pts
  obtain ⟨n, hn⟩ : ∃ n, l.length = n + 1 := ⟨l.length - 1, by omega⟩
  rw [hn, ptsF, if_neg h, ptsF_eq n _ _ (by rw [List.length_drop]; omega) (Nat.le_refl _)]
theorem pts_drop (l : List UInt8) (i : Nat) (h : i < l.length) : pts (l.drop i) = (part1 (l.drop i)).1 :: pts (l.drop (i + (part1 (l.drop i)).2)) := by
  have hne : l.drop i ≠ [] := by intro e; have := congrArg List.length e; rw [List.length_drop] at this; simp at this; omega
  rw [pts_cons _ hne, List.drop_drop]

/-- What Plain writes of the first part. -/
def partT (l : List UInt8) : List UInt8 := if l.head? = some 92 ∧ 2 ≤ l.length then (l.drop 1).take 1 else l.take (part1 l).2
def plnF : Nat → List UInt8 → List UInt8
  | 0, _ => []
  | k + 1, l => if l = [] then [] else partT l ++ plnF k (l.drop (part1 l).2)
theorem plnF_eq : ∀ (k k' : Nat) (l : List UInt8), l.length ≤ k → l.length ≤ k' → plnF k l = plnF k' l
  | 0, 0, _, _, _ => rfl
  | 0, k' + 1, l, h, _ => by
    have : l = [] := List.eq_nil_of_length_eq_zero (by omega)
    simp [plnF, this]
  | k + 1, 0, l, _, h => by
    have : l = [] := List.eq_nil_of_length_eq_zero (by omega)
    simp [plnF, this]
  | k + 1, k' + 1, l, h, h' => by
    unfold plnF
    split
    · rfl
    · have := part1_pos l
      rw [plnF_eq k k' _ (by rw [List.length_drop]; omega) (by rw [List.length_drop]; omega)]
/-- What Plain writes. -/
def pln (l : List UInt8) : List UInt8 := plnF l.length l
theorem pln_nil : pln [] = [] := rfl
theorem pln_cons (l : List UInt8) (h : l ≠ []) : pln l = partT l ++ pln (l.drop (part1 l).2) := by
  have h1 : 1 ≤ l.length := by cases l with | nil => exact absurd rfl h | cons c r => simp
  have h2 := part1_pos l
  unfold pln
  obtain ⟨n, hn⟩ : ∃ n, l.length = n + 1 := ⟨l.length - 1, by omega⟩
  rw [hn, plnF, if_neg h, plnF_eq n _ _ (by rw [List.length_drop]; omega) (Nat.le_refl _)]
theorem pln_esc (d : UInt8) (r : List UInt8) : pln (92 :: d :: r) = d :: pln r := by
  rw [pln_cons _ (by simp)]
  rfl
theorem pln_one (c : UInt8) (r : List UInt8) (h : part1 (c :: r) = (some fun x => x == c, 1)) (hc : c ≠ 92 ∨ r = []) : pln (c :: r) = c :: pln r := by
  rw [pln_cons _ (by simp), h]
  unfold partT
  have hn : ¬ ((c :: r).head? = some 92 ∧ 2 ≤ (c :: r).length) := by
    rintro ⟨h1, h2⟩
    rcases hc with hc | hc
    · exact hc (by simpa using h1)
    · rw [hc] at h2
      simp at h2
  rw [if_neg hn, h]
  rfl
theorem pln_byte (c : UInt8) (r : List UInt8) (h92 : c ≠ 92) (h91 : c ≠ 91) : pln (c :: r) = c :: pln r := by
  rw [pln_cons _ (by simp)]
  have hw : (part1 (c :: r)).2 = 1 := by
    unfold part1
    simp only
    rw [if_neg h92]
    split
    · rfl
    · split
      · rfl
      · first
        | rfl
        | rw [if_neg h91]
  unfold partT
  rw [if_neg (by rintro ⟨h1, _⟩; exact h92 (by simpa using h1)), hw]
  rfl
theorem pln_cls (r : List UInt8) (n : Nat) (neg : Bool) (set : List UInt8) (h : cls r = some (n, neg, set)) : pln (91 :: r) = (91 :: r).take (n + 2) ++ pln ((91 :: r).drop (n + 2)) := by
  rw [pln_cons _ (by simp), part1_some r n neg set h]
  unfold partT
  rw [if_neg (by simp), part1_some r n neg set h]

def starAny (g : List UInt8 → Bool) : List UInt8 → Bool
  | [] => g []
  | c :: s => g (c :: s) || starAny g s
/-- Do the parts match a string? -/
def mt : List Pt → List UInt8 → Bool
  | [], s => s.isEmpty
  | some _ :: _, [] => false
  | some f :: ps, c :: s => f c && mt ps s
  | none :: ps, s => starAny (mt ps) s
theorem starAny_iff (g : List UInt8 → Bool) : ∀ s, starAny g s = true ↔ ∃ j, j ≤ s.length ∧ g (s.drop j) = true
  | [] => by
    constructor
    · intro h; exact ⟨0, Nat.le_refl _, h⟩
    · rintro ⟨j, hj, h⟩
      have : j = 0 := by simpa using hj
      subst this
      exact h
  | c :: s => by
    simp only [starAny, Bool.or_eq_true, starAny_iff g s]
    constructor
    · rintro (h | ⟨j, hj, h⟩)
      · exact ⟨0, Nat.zero_le _, h⟩
      · exact ⟨j + 1, by simp; omega, by simpa using h⟩
    · rintro ⟨j, hj, h⟩
      cases j with
      | zero => exact .inl h
      | succ j => exact .inr ⟨j, by simp at hj; omega, by simpa using h⟩
theorem starAny_step (g : List UInt8 → Bool) (s : List UInt8) (a : Nat) : starAny g (s.drop a) = (g (s.drop a) || (decide (a < s.length) && starAny g (s.drop (a + 1)))) := by
  by_cases h : a < s.length
  · rw [List.drop_eq_getElem_cons h]
    simp [starAny, h]
  · rw [List.drop_of_length_le (by omega)]
    simp [starAny, h]
theorem mt_pre : ∀ (F : List (UInt8 → Bool)) (ps : List Pt) (s : List UInt8), mt (F.map some ++ ps) s = true → F.length ≤ s.length ∧ mt ps (s.drop F.length) = true
  | [], ps, s, h => ⟨Nat.zero_le _, h⟩
  | f :: F, ps, [], h => by simp [mt] at h
  | f :: F, ps, c :: s, h => by
    simp only [List.map_cons, List.cons_append, mt, Bool.and_eq_true] at h
    have := mt_pre F ps s h.2
    exact ⟨by simp only [List.length_cons]; omega, by simpa using this.2⟩

/-- What the search knows: of the star that it remembers (its place, and where in s it was last tried). -/
structure InvS (p s : List UInt8) (j ag i u : Nat) : Prop where
  hi : i ≤ p.length
  hu : u ≤ s.length
  hj : j < i
  hag : ag ≤ u
  seg : ∃ F : List (UInt8 → Bool), F.length = u - ag ∧ pts (p.drop (j + 1)) = F.map some ++ pts (p.drop i)
  ans : mt (pts p) s = (mt (pts (p.drop i)) (s.drop u) || (decide (ag < s.length) && starAny (mt (pts (p.drop (j + 1)))) (s.drop (ag + 1))))
structure InvN (p s : List UInt8) (i u : Nat) : Prop where
  hi : i ≤ p.length
  hu : u ≤ s.length
  ans : mt (pts p) s = mt (pts (p.drop i)) (s.drop u)

theorem invN_start (p s : List UInt8) : InvN p s 0 0 := ⟨Nat.zero_le _, Nat.zero_le _, rfl⟩
theorem mt_star (l : List UInt8) (i : Nat) (h : i < l.length) (hc : l[i] = 42) : pts (l.drop i) = none :: pts (l.drop (i + 1)) := by
  rw [pts_drop l i h]
  have e : l.drop i = 42 :: l.drop (i + 1) := by rw [List.drop_eq_getElem_cons h, hc]
  have e2 : part1 (l.drop i) = (none, 1) := by rw [e]; rfl
  rw [e2]
theorem invN_star {p s : List UInt8} {i u : Nat} (h : InvN p s i u) (hi : i < p.length) (hc : p[i] = 42) : InvS p s i u (i + 1) u := by
  refine ⟨hi, h.hu, by omega, Nat.le_refl _, ⟨[], by simp, rfl⟩, ?_⟩
  rw [h.ans, mt_star p i hi hc, mt, starAny_step]
theorem invS_star {p s : List UInt8} {j ag i u : Nat} (h : InvS p s j ag i u) (hi : i < p.length) (hc : p[i] = 42) : InvS p s i u (i + 1) u := by
  refine ⟨hi, h.hu, by omega, Nat.le_refl _, ⟨[], by simp, rfl⟩, ?_⟩
  have hu := h.hu
  have hag := h.hag
  have e := h.ans
  rw [mt_star p i hi hc, mt] at e
  rw [e, ← starAny_step]
  obtain ⟨F, hF, hseg⟩ := h.seg
  cases hx : starAny (mt (pts (p.drop (i + 1)))) (s.drop u) with
  | true => rfl
  | false =>
    rw [Bool.false_or, Bool.and_eq_false_iff]
    by_cases hl : ag < s.length
    · right
      rw [← Bool.not_eq_true]
      intro hy
      obtain ⟨a, ha, hm⟩ := (starAny_iff _ _).1 hy
      rw [hseg, mt_star p i hi hc, List.drop_drop] at hm
      obtain ⟨hl2, hm2⟩ := mt_pre _ _ _ hm
      rw [mt, List.drop_drop] at hm2
      obtain ⟨b, hb, hm3⟩ := (starAny_iff _ _).1 hm2
      rw [List.length_drop] at ha hl2 hb
      rw [List.drop_drop] at hm3
      have : starAny (mt (pts (p.drop (i + 1)))) (s.drop u) = true := by
        refine (starAny_iff _ _).2 ⟨ag + 1 + a + F.length + b - u, by rw [List.length_drop]; omega, ?_⟩
        rw [List.drop_drop, show u + (ag + 1 + a + F.length + b - u) = ag + 1 + a + F.length + b by omega]
        exact hm3
      rw [this] at hx
      cases hx
    · left
      simpa using hl
theorem invN_ok {p s : List UInt8} {i u : Nat} (h : InvN p s i u) (hi : i < p.length) (hu : u < s.length) (f : UInt8 → Bool) (n : Nat) (hp : part1 (p.drop i) = (some f, n)) (hf : f s[u] = true) : InvN p s (i + n) (u + 1) := by
  have hn := part1_le (p.drop i) (by intro e; have := congrArg List.length e; rw [List.length_drop] at this; simp at this; omega)
  rw [hp, List.length_drop] at hn
  refine ⟨by omega, hu, ?_⟩
  rw [h.ans, pts_drop p i hi, hp, List.drop_eq_getElem_cons hu]
  simp [mt, hf]
theorem invS_ok {p s : List UInt8} {j ag i u : Nat} (h : InvS p s j ag i u) (hi : i < p.length) (hu : u < s.length) (f : UInt8 → Bool) (n : Nat) (hp : part1 (p.drop i) = (some f, n)) (hf : f s[u] = true) : InvS p s j ag (i + n) (u + 1) := by
  have hn := part1_le (p.drop i) (by intro e; have := congrArg List.length e; rw [List.length_drop] at this; simp at this; omega)
  rw [hp, List.length_drop] at hn
  have hj := h.hj
  have hag := h.hag
  obtain ⟨F, hF, hseg⟩ := h.seg
  refine ⟨by simp at hn; omega, hu, by omega, by omega, ⟨F ++ [f], by simp; omega, ?_⟩, ?_⟩
  · rw [hseg, pts_drop p i hi, hp]
    simp
  · rw [h.ans, pts_drop p i hi, hp, List.drop_eq_getElem_cons hu]
    simp [mt, hf]
/-- Nothing stands here that goes on. -/
def Stuck (p s : List UInt8) (i u : Nat) : Prop := mt (pts (p.drop i)) (s.drop u) = false
theorem stuck_end {p s : List UInt8} {i u : Nat} (hi : p.length ≤ i) (hu : u < s.length) : Stuck p s i u := by
  unfold Stuck
  rw [List.drop_of_length_le hi, List.drop_eq_getElem_cons hu, pts_nil]
  rfl
theorem stuck_short {p s : List UInt8} {i u : Nat} (hi : i < p.length) (hu : s.length ≤ u) (f : UInt8 → Bool) (n : Nat) (hp : part1 (p.drop i) = (some f, n)) : Stuck p s i u := by
  unfold Stuck
  rw [pts_drop p i hi, hp, List.drop_of_length_le hu]
  rfl
theorem stuck_byte {p s : List UInt8} {i u : Nat} (hi : i < p.length) (hu : u < s.length) (f : UInt8 → Bool) (n : Nat) (hp : part1 (p.drop i) = (some f, n)) (hf : f s[u] = false) : Stuck p s i u := by
  unfold Stuck
  rw [pts_drop p i hi, hp, List.drop_eq_getElem_cons hu]
  simp [mt, hf]
theorem invS_back {p s : List UInt8} {j ag i u : Nat} (h : InvS p s j ag i u) (hs : Stuck p s i u) (hl : ag < s.length) : InvS p s j (ag + 1) (j + 1) (ag + 1) := by
  have hj := h.hj
  have hi := h.hi
  refine ⟨by omega, hl, by omega, Nat.le_refl _, ⟨[], by simp, rfl⟩, ?_⟩
  rw [h.ans, hs, Bool.false_or, decide_eq_true hl, Bool.true_and, starAny_step]
theorem invS_no {p s : List UInt8} {j ag i u : Nat} (h : InvS p s j ag i u) (hs : Stuck p s i u) (hl : ¬ ag < s.length) : mt (pts p) s = false := by
  rw [h.ans, hs, decide_eq_false hl]
  rfl
theorem invN_no {p s : List UInt8} {i u : Nat} (h : InvN p s i u) (hs : Stuck p s i u) : mt (pts p) s = false := by rw [h.ans, hs]
theorem mt_end (p s : List UInt8) : mt (pts (p.drop p.length)) (s.drop s.length) = true := by simp [pts_nil, mt]
theorem invS_yes {p s : List UInt8} {j ag : Nat} (h : InvS p s j ag p.length s.length) : mt (pts p) s = true := by rw [h.ans, mt_end]; rfl
theorem invN_yes {p s : List UInt8} (h : InvN p s p.length s.length) : mt (pts p) s = true := by rw [h.ans, mt_end]
end Go.Proofs.YtfefbnfmngdicaaDoor.PX
