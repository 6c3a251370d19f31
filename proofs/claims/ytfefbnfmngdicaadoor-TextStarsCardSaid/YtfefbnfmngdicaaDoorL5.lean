/- Plain laws of patterns: magic, Plain, Escape. No program in sight. -/
import Derived.Test.YtfefbnfmngdicaaDoorL2
namespace Go.Proofs.YtfefbnfmngdicaaDoor.PX
set_option linter.unusedVariables false
set_option linter.unusedSimpArgs false

/-- Is the first part a star, a question mark or a class? -/
def mg1 (l : List UInt8) : Bool :=
  match l with
  | [] => false
  | c :: r => c == 42 || c == 63 || (c == 91 && (cls r).isSome)
def mgF : Nat → List UInt8 → Bool
  | 0, _ => false
  | k + 1, l => if l = [] then false else mg1 l || mgF k (l.drop (part1 l).2)
theorem mgF_eq : ∀ (k k' : Nat) (l : List UInt8), l.length ≤ k → l.length ≤ k' → mgF k l = mgF k' l
  | 0, 0, _, _, _ => rfl
  | 0, k' + 1, l, h, _ => by
    have : l = [] := List.eq_nil_of_length_eq_zero (by omega)
    simp [mgF, this]
  | k + 1, 0, l, _, h => by
    have : l = [] := List.eq_nil_of_length_eq_zero (by omega)
    simp [mgF, this]
  | k + 1, k' + 1, l, h, h' => by
    unfold mgF
    split
    · rfl
    · have := part1_pos l
      rw [mgF_eq k k' _ (by rw [List.length_drop]; omega) (by rw [List.length_drop]; omega)]
/-- Has a pattern magic? -/
def mg (l : List UInt8) : Bool := mgF l.length l
theorem mg_nil : mg [] = false := rfl
theorem mg_cons (l : List UInt8) (h : l ≠ []) : mg l = (mg1 l || mg (l.drop (part1 l).2)) := by
  have h1 : 1 ≤ l.length := by cases l with | nil => exact absurd rfl h | cons c r => simp
  have h2 := part1_pos l
  unfold mg
  obtain ⟨n, hn⟩ : ∃ n, l.length = n + 1 := ⟨l.length - 1, by omega⟩
  rw [hn, mgF, if_neg h, mgF_eq n _ _ (by rw [List.length_drop]; omega) (Nat.le_refl _)]

/-- A test of one given byte. -/
def lit (b : UInt8) : Pt := some fun x => x == b
theorem mt_lits : ∀ (bs s : List UInt8), mt (bs.map lit) s = (s == bs)
  | [], [] => rfl
  | [], c :: s => rfl
  | b :: bs, [] => rfl
  | b :: bs, c :: s => by
    show (c == b && mt (bs.map lit) s) = _
    rw [mt_lits bs s]
    rfl

/-- One step: a first part without magic is a byte, and Plain writes it. -/
theorem plain_step (l : List UInt8) (h : l ≠ []) (hm : mg1 l = false) : ∃ b, (part1 l).1 = lit b ∧ partT l = [b] := by
  match l, h with
  | c :: r, _ =>
    unfold mg1 at hm
    simp only [Bool.or_eq_false_iff, Bool.and_eq_false_iff, beq_eq_false_iff_ne] at hm
    obtain ⟨⟨h42, h63⟩, h91⟩ := hm
    by_cases h92 : c = 92
    · subst h92
      match r with
      | [] => exact ⟨92, rfl, rfl⟩
      | d :: r => exact ⟨d, rfl, rfl⟩
    · by_cases h9 : c = 91
      · subst h9
        have hc : cls r = none := by
          rcases h91 with h91 | h91
          · exact absurd rfl h91
          · cases hq : cls r with
            | none => rfl
            | some x => rw [hq] at h91; cases h91
        refine ⟨91, by rw [part1_none r hc]; rfl, ?_⟩
        unfold partT
        rw [if_neg (by simp), part1_none r hc]
        rfl
      · refine ⟨c, by rw [part1_byte c r h92 h42 h63 h9]; rfl, ?_⟩
        unfold partT
        rw [if_neg (by simp [h92]), part1_byte c r h92 h42 h63 h9]
        rfl
theorem plain_pts : ∀ (k : Nat) (l : List UInt8), l.length ≤ k → mg l = false → pts l = (pln l).map lit
  | 0, l, hk, _ => by
    have : l = [] := List.eq_nil_of_length_eq_zero (by omega)
    subst this
    rfl
  | k + 1, l, hk, hm => by
    by_cases h : l = []
    · subst h; rfl
    · rw [mg_cons l h, Bool.or_eq_false_iff] at hm
      obtain ⟨b, h1, h2⟩ := plain_step l h hm.1
      have hp := part1_pos l
      rw [pts_cons l h, pln_cons l h, h1, h2, plain_pts k _ (by rw [List.length_drop]; omega) hm.2]
      rfl
/-- A pattern without magic matches what Plain writes, and nothing else. -/
theorem plain_mt (l s : List UInt8) (h : mg l = false) : mt (pts l) s = (s == pln l) := by
  rw [plain_pts l.length l (Nat.le_refl _) h, mt_lits]

theorem esc_cons (c : UInt8) (r : List UInt8) : esc (c :: r) = escB c ++ esc r := by simp [esc]
theorem escB_two (c : UInt8) (h : c = 42 ∨ c = 63 ∨ c = 91 ∨ c = 92) : escB c = [92, c] := if_pos h
theorem escB_one (c : UInt8) (h : ¬ (c = 42 ∨ c = 63 ∨ c = 91 ∨ c = 92)) : escB c = [c] := if_neg h
theorem pts_esc (c : UInt8) (r l : List UInt8) : pts (escB c ++ l) = lit c :: pts l ∧ mg (escB c ++ l) = mg l ∧ pln (escB c ++ l) = c :: pln l := by
  by_cases h : c = 42 ∨ c = 63 ∨ c = 91 ∨ c = 92
  · rw [escB_two c h]
    show pts (92 :: c :: l) = _ ∧ mg (92 :: c :: l) = _ ∧ pln (92 :: c :: l) = _
    refine ⟨?_, ?_, pln_esc c l⟩
    · rw [pts_cons _ (by simp)]
      rfl
    · rw [mg_cons _ (by simp)]
      rfl
  · rw [escB_one c h]
    simp only [not_or] at h
    obtain ⟨h42, h63, h91, h92⟩ := h
    show pts (c :: l) = _ ∧ mg (c :: l) = _ ∧ pln (c :: l) = _
    have hb := part1_byte c l h92 h42 h63 h91
    refine ⟨?_, ?_, pln_byte c l h92 h91⟩
    · rw [pts_cons _ (by simp), hb]
      rfl
    · rw [mg_cons _ (by simp), hb]
      have : mg1 (c :: l) = false := by simp [mg1, h42, h63, h91]
      rw [this]
      rfl
theorem esc_all : ∀ (s : List UInt8), pts (esc s) = s.map lit ∧ mg (esc s) = false ∧ pln (esc s) = s
  | [] => ⟨rfl, rfl, rfl⟩
  | c :: s => by
    obtain ⟨h1, h2, h3⟩ := esc_all s
    obtain ⟨g1, g2, g3⟩ := pts_esc c s (esc s)
    rw [esc_cons]
    exact ⟨by rw [g1, h1]; rfl, by rw [g2, h2], by rw [g3, h3]⟩
theorem esc_mt (s : List UInt8) : mt (pts (esc s)) s = true := by
  rw [(esc_all s).1, mt_lits]
  exact beq_self_eq_true s
end Go.Proofs.YtfefbnfmngdicaaDoor.PX
