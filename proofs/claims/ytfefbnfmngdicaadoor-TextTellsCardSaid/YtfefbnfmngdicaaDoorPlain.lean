/- The plain functions that package text computes, as lists of bytes; no program in sight. -/
import Derived.Lib.Bytealg
import Derived.RowKit
import Derived.IntWalk
namespace Go.Proofs.YtfefbnfmngdicaaDoor.PX
set_option linter.unusedVariables false
set_option linter.unusedSimpArgs false

theorem all_u8 (p : UInt8 → Bool) (h : (List.range 256).all (fun n => p (UInt8.ofNat n)) = true) (c : UInt8) : p c = true := by
  have := List.all_eq_true.1 h c.toNat (List.mem_range.2 c.toNat_lt)
  simpa using this
theorem u8_eq {c : UInt8} {n : Nat} (h : c.toNat = n) (hn : n < 256) : c = UInt8.ofNat n := UInt8.toNat_inj.1 (by rw [UInt8.toNat_ofNat', h]; omega)
/-- The bytes that Escape writes for one byte. -/
def escB (c : UInt8) : List UInt8 := if c = 42 ∨ c = 63 ∨ c = 91 ∨ c = 92 then [92, c] else [c]
def esc (l : List UInt8) : List UInt8 := l.flatMap escB
/-- A digit of the constant 0123456789abcdef. -/
def hexD (n : Nat) : UInt8 := [48, 49, 50, 51, 52, 53, 54, 55, 56, 57, 97, 98, 99, 100, 101, 102].getD n 0
/-- The bytes that Quote writes for one byte. -/
def quoB (c : UInt8) : List UInt8 :=
  if c.toNat = 34 ∨ c.toNat = 92 then [92, c] else if c.toNat = 10 then [92, 110] else if 32 ≤ c.toNat ∧ c.toNat ≤ 126 then [c] else [92, 120, hexD (c.toNat / 16), hexD (c.toNat % 16)]
def quo (l : List UInt8) : List UInt8 := 34 :: l.flatMap quoB ++ [34]

theorem escB_len (c : UInt8) : (escB c).length ≤ 2 := by unfold escB; split <;> simp
theorem esc_len (l : List UInt8) : (esc l).length ≤ 2 * l.length := by
  induction l with
  | nil => simp [esc]
  | cons c l ih =>
    have := escB_len c
    simp only [esc, List.flatMap_cons, List.length_append, List.length_cons] at *
    omega
theorem esc_snoc (l : List UInt8) (c : UInt8) : esc (l ++ [c]) = esc l ++ escB c := by simp [esc]
theorem quoB_len (c : UInt8) : (quoB c).length ≤ 4 := by
  unfold quoB
  repeat' split
  all_goals simp
theorem quoF_len (l : List UInt8) : (l.flatMap quoB).length ≤ 4 * l.length := by
  induction l with
  | nil => simp
  | cons c l ih =>
    have := quoB_len c
    simp only [List.flatMap_cons, List.length_append, List.length_cons] at *
    omega
theorem flat_snoc (f : UInt8 → List UInt8) (l : List UInt8) (c : UInt8) : (l ++ [c]).flatMap f = l.flatMap f ++ f c := by simp
theorem take_snoc (s : ByteArray) (k : Nat) (h : k < s.size) : s.data.toList.take (k + 1) = s.data.toList.take k ++ [s[k]] := by
  rw [List.take_succ_eq_append_getElem (by simpa using h)]; rfl
theorem take_all (s : ByteArray) (k : Nat) (h : s.size ≤ k) : s.data.toList.take k = s.data.toList := List.take_of_length_le (by simpa using h)

/-- What IndexByte of the constant *?[\ answers. -/
theorem idx_esc (c : UInt8) : (0 ≤ Lib.indexByte [42, 63, 91, 92] c) ↔ (c = 42 ∨ c = 63 ∨ c = 91 ∨ c = 92) := by
  have e := all_u8 (fun c => decide (0 ≤ Lib.indexByte [42, 63, 91, 92] c) == decide (c = 42 ∨ c = 63 ∨ c = 91 ∨ c = 92)) (by decide +kernel) c
  exact decide_eq_decide.1 (beq_iff_eq.1 e)
theorem hexAt (n : Nat) (h : n < (⟨#[48, 49, 50, 51, 52, 53, 54, 55, 56, 57, 97, 98, 99, 100, 101, 102]⟩ : ByteArray).size) :
    (⟨#[48, 49, 50, 51, 52, 53, 54, 55, 56, 57, 97, 98, 99, 100, 101, 102]⟩ : ByteArray)[n]'h = hexD n := by
  have e : (⟨#[48, 49, 50, 51, 52, 53, 54, 55, 56, 57, 97, 98, 99, 100, 101, 102]⟩ : ByteArray).size = 16 := rfl
  have h' : n < 16 := by omega
  match n, h' with
  | 0, _ => rfl
  | 1, _ => rfl
  | 2, _ => rfl
  | 3, _ => rfl
  | 4, _ => rfl
  | 5, _ => rfl
  | 6, _ => rfl
  | 7, _ => rfl
  | 8, _ => rfl
  | 9, _ => rfl
  | 10, _ => rfl
  | 11, _ => rfl
  | 12, _ => rfl
  | 13, _ => rfl
  | 14, _ => rfl
  | 15, _ => rfl
  | n + 16, h2 => exact absurd h2 (by omega)
theorem sz_toList (s : ByteArray) : s.data.toList.length = s.size := by rw [Array.length_toList]; rfl

/-- The byte that Unquote makes of two hexadecimal digits, as the code reckons it. -/
def hxP (a b : UInt8) : Int := IntKind.u8.wrap (Go.bits .or .i64 (IntKind.i64.wrap (Lib.indexByte [48, 49, 50, 51, 52, 53, 54, 55, 56, 57, 97, 98, 99, 100, 101, 102] a * 16)) (Lib.indexByte [48, 49, 50, 51, 52, 53, 54, 55, 56, 57, 97, 98, 99, 100, 101, 102] b))
theorem hxP_range (a b : UInt8) : 0 ≤ hxP a b ∧ hxP a b < 256 := by
  unfold hxP
  rw [IntKind.wrap_u8]
  omega
def hxB (a b : UInt8) : UInt8 := UInt8.ofNat (hxP a b).toNat
theorem hxB_toNat (a b : UInt8) : ((hxB a b).toNat : Int) = hxP a b := by
  obtain ⟨h0, h1⟩ := hxP_range a b
  unfold hxB
  rw [UInt8.toNat_ofNat']
  omega
/-- What stands between the quotation marks, read by the code of Unquote. -/
def unqF : Nat → List UInt8 → List UInt8
  | 0, _ => []
  | _ + 1, [] => []
  | _ + 1, [c] => [c]
  | k + 1, c :: d :: r =>
    if c ≠ 92 then c :: unqF k (d :: r)
    else if d = 110 then 10 :: unqF k r
    else if d = 120 then
      match r with
      | a :: b :: r' => hxB a b :: unqF k r'
      | r0 => d :: unqF k r0
    else d :: unqF k r
theorem unqF_eq : ∀ (k k' : Nat) (l : List UInt8), l.length ≤ k → l.length ≤ k' → unqF k l = unqF k' l
  | 0, 0, _, _, _ => rfl
  | 0, _ + 1, [], _, _ => rfl
  | _ + 1, 0, [], _, _ => rfl
  | 0, _ + 1, _ :: _, h, _ => absurd h (by simp)
  | _ + 1, 0, _ :: _, _, h => absurd h (by simp)
  | _ + 1, _ + 1, [], _, _ => rfl
  | _ + 1, _ + 1, [_], _, _ => rfl
  | k + 1, k' + 1, c :: d :: r, h, h' => by
    simp only [List.length_cons] at h h'
    have e1 := unqF_eq k k' (d :: r) (by simp; omega) (by simp; omega)
    have e2 := unqF_eq k k' r (by omega) (by omega)
    match r, e1, e2, h, h' with
    | [], e1, e2, _, _ => simp only [unqF, e1, e2]
    | [_], e1, e2, _, _ => simp only [unqF, e1, e2]
    | a :: b :: r', e1, e2, h, h' =>
      simp only [List.length_cons] at h h'
      have e3 := unqF_eq k k' r' (by omega) (by omega)
      simp only [unqF, e1, e2, e3]
def unq (l : List UInt8) : List UInt8 := unqF l.length l
theorem unq_plain (c : UInt8) (r : List UInt8) (h : c ≠ 92) : unq (c :: r) = c :: unq r := by
  match r with
  | [] => rfl
  | [d] => simp [unq, unqF, h]
  | [d, e] => simp [unq, unqF, h]
  | d :: e :: f :: r => simp [unq, unqF, h]
theorem unq_last : unq [92] = [92] := rfl
theorem unq_n (r : List UInt8) : unq (92 :: 110 :: r) = 10 :: unq r := by
  have e := unqF_eq (r.length + 1) r.length r (by omega) (by omega)
  match r, e with
  | [], _ => rfl
  | [d], _ => rfl
  | d :: e :: r, h => simp only [unq, List.length_cons] at *; rw [← h]; simp [unqF]
theorem unq_x (a b : UInt8) (r : List UInt8) : unq (92 :: 120 :: a :: b :: r) = hxB a b :: unq r := by
  have e := unqF_eq (r.length + 1 + 1 + 1) r.length r (by omega) (by omega)
  simp only [unq, List.length_cons] at *
  rw [← e]
  simp [unqF]
theorem unq_xs (r : List UInt8) (h : r.length < 2) : unq (92 :: 120 :: r) = 120 :: unq r := by
  match r, h with
  | [], _ => rfl
  | [a], _ => rfl
theorem unq_d (d : UInt8) (r : List UInt8) (h1 : d ≠ 110) (h2 : d ≠ 120) : unq (92 :: d :: r) = d :: unq r := by
  have e := unqF_eq (r.length + 1) r.length r (by omega) (by omega)
  match r, e with
  | [], _ => simp [unq, unqF, h1, h2]
  | [x], _ => simp [unq, unqF, h1, h2]
  | x :: y :: r, h => simp only [unq, List.length_cons] at *; rw [← h]; simp [unqF, h1, h2]
end Go.Proofs.YtfefbnfmngdicaaDoor.PX
