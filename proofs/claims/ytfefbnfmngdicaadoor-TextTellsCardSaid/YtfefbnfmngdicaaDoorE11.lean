/- errataref02.Parts, walked by hand: the parts of a pattern. -/
import Derived.Test.YtfefbnfmngdicaaDoorPS1
import Derived.Test.YtfefbnfmngdicaaDoorL3
import Derived.Deep.LoopGhost
import Derived.Deep.RegionHeld3
import Derived.Deep.CutBlock
namespace Go.Proofs.YtfefbnfmngdicaaDoor.PX
set_option linter.unusedVariables false
set_option linter.unusedSimpArgs false
open Go.RowKit Go.Proofs.YtfefbnfmngdicaaDoorW.PrintWords Go.Proofs.YtfefbnfmngdicaaDoorW.PrintLast

theorem w64x' {x : Int} (h0 : -9223372036854775808 ≤ x) (h1 : x ≤ 9223372036854775807) : IntKind.i64.wrap x = x := by
  rw [i64_w]; unfold wrap64; omega
def byt (l : List UInt8) : ByteArray := ⟨l.toArray⟩
/-- The first part of a pattern, as the reference has it. -/
def rpt : List UInt8 → S84
  | [] => z84
  | c :: r =>
    if c = 92 ∧ r ≠ [] then ⟨0, ((r.headD 0).toNat : Int), ⟨#[]⟩, false, byt ((c :: r).take 2)⟩
    else if c = 42 then ⟨1, (c.toNat : Int), ⟨#[]⟩, false, byt [c]⟩
    else if c = 63 then ⟨2, (c.toNat : Int), ⟨#[]⟩, false, byt [c]⟩
    else if c = 91 then
      (match cls r with
       | some (n, neg, set) => ⟨3, 0, byt set, neg, byt ((c :: r).take (n + 2))⟩
       | none => ⟨0, (c.toNat : Int), ⟨#[]⟩, false, byt [c]⟩)
    else ⟨0, (c.toNat : Int), ⟨#[]⟩, false, byt [c]⟩
theorem byt_size (l : List UInt8) : (byt l).size = l.length := by unfold byt; rw [ByteArray.size, List.size_toArray]
theorem rpt_eq (c : UInt8) (r : List UInt8) : rpt (c :: r) =
    if c = 92 ∧ r ≠ [] then ⟨0, ((r.headD 0).toNat : Int), ⟨#[]⟩, false, byt ((c :: r).take 2)⟩
    else if c = 42 then ⟨1, (c.toNat : Int), ⟨#[]⟩, false, byt [c]⟩
    else if c = 63 then ⟨2, (c.toNat : Int), ⟨#[]⟩, false, byt [c]⟩
    else if c = 91 then
      (match cls r with
       | some (n, neg, set) => ⟨3, 0, byt set, neg, byt ((c :: r).take (n + 2))⟩
       | none => ⟨0, (c.toNat : Int), ⟨#[]⟩, false, byt [c]⟩)
    else ⟨0, (c.toNat : Int), ⟨#[]⟩, false, byt [c]⟩ := rfl
theorem rpt_pos (c : UInt8) (r : List UInt8) : 1 ≤ (rpt (c :: r)).f4.size ∧ (rpt (c :: r)).f4.size ≤ (c :: r).length := by
  rw [rpt_eq]
  split
  · rename_i h
    rw [byt_size, List.length_take, List.length_cons]
    have : 1 ≤ r.length := by
      cases r with
      | nil => exact absurd rfl h.2
      | cons a r => rw [List.length_cons]; omega
    omega
  · split
    · rw [byt_size]; simp only [List.length_cons, List.length_nil]; omega
    · split
      · rw [byt_size]; simp only [List.length_cons, List.length_nil]; omega
      · split
        · split
          · rename_i n neg set hc
            have := cls_lt r n neg set hc
            rw [byt_size, List.length_take, List.length_cons]; omega
          · rw [byt_size]; simp only [List.length_cons, List.length_nil]; omega
        · rw [byt_size]; simp only [List.length_cons, List.length_nil]; omega
def rptsF : Nat → List UInt8 → List S84
  | 0, _ => []
  | _ + 1, [] => []
  | k + 1, c :: r => rpt (c :: r) :: rptsF k ((c :: r).drop (rpt (c :: r)).f4.size)
theorem rptsF_eq : ∀ (k k' : Nat) (l : List UInt8), l.length ≤ k → l.length ≤ k' → rptsF k l = rptsF k' l
  | 0, 0, _, _, _ => rfl
  | 0, _ + 1, [], _, _ => rfl
  | 0, _ + 1, c :: r, h, _ => absurd h (Nat.not_succ_le_zero _)
  | _ + 1, 0, [], _, _ => rfl
  | _ + 1, 0, c :: r, _, h => absurd h (Nat.not_succ_le_zero _)
  | _ + 1, _ + 1, [], _, _ => rfl
  | k + 1, k' + 1, c :: r, h, h' => by
    have hp := rpt_pos c r
    unfold rptsF
    rw [rptsF_eq k k' _ (by rw [List.length_drop]; omega) (by rw [List.length_drop]; omega)]
/-- The parts of a pattern. -/
def rpts (l : List UInt8) : List S84 := rptsF l.length l
theorem rpts_cons (c : UInt8) (r : List UInt8) : rpts (c :: r) = rpt (c :: r) :: rpts ((c :: r).drop (rpt (c :: r)).f4.size) := by
  have hp := rpt_pos c r
  show rpt (c :: r) :: rptsF r.length _ = _
  unfold rpts
  rw [rptsF_eq r.length _ _ (by rw [List.length_drop, List.length_cons]; rw [List.length_cons] at hp; omega) (Nat.le_refl _)]

/-- What closing answers. -/
def clR (p : ByteArray) (f : Nat) : Int := match closeAt (p.data.toList.drop f) with | some n => ((f + n : Nat) : Int) | none => -1
theorem closing_l0 (p : ByteArray) (hp : p.size ≤ 1000000) : ∀ (j i k : Nat), p.size - i ≤ j → j + 1 ≤ k → errataref02_closing.l0 k p (i : Int) = some (match findB (p.data.toList.drop i) with | some n => ((i + n : Nat) : Int) | none => -1) := by
  intro j
  induction j with
  | zero =>
    intro i k hj hk
    obtain ⟨k, rfl⟩ : ∃ m, k = m + 1 := ⟨k - 1, by omega⟩
    simp only [errataref02_closing.l0]
    rw [if_neg (by omega), List.drop_of_length_le (by rw [sz_toList]; omega)]
    rfl
  | succ j ih =>
    intro i k hj hk
    by_cases h : i < p.size
    · obtain ⟨k, rfl⟩ : ∃ m, k = m + 1 := ⟨k - 1, by omega⟩
      have hd : p.data.toList.drop i = p[i] :: p.data.toList.drop (i + 1) := by
        rw [List.drop_eq_getElem_cons (by rw [sz_toList]; exact h)]; rfl
      simp only [errataref02_closing.l0]
      rw [if_pos (by omega), if_pos (by omega), bt_nat p i h, hd]
      unfold findB
      by_cases h93 : p[i] = 93
      · rw [if_pos (show (p[i].toNat : Int) = 93 by rw [h93]; rfl), if_pos h93]
        rfl
      · rw [if_neg (show ¬ (p[i].toNat : Int) = 93 from fun e => h93 (u8_eq (n := 93) (by omega) (by decide))), if_neg h93, w64 (by omega) (by omega), show (i : Int) + 1 = ((i + 1 : Nat) : Int) by omega, ih (i + 1) k (by omega) (by omega)]
        cases findB (p.data.toList.drop (i + 1)) with
        | none => rfl
        | some n =>
          show some (((i + 1 + n : Nat)) : Int) = some (((i + (n + 1) : Nat)) : Int)
          rw [show i + 1 + n = i + (n + 1) by omega]
    · exact ih i k (by omega) (by omega)
theorem closing_R (p : ByteArray) (hp : p.size ≤ 1000000) (f : Nat) (hf : f ≤ p.size + 10) (k : Nat) (hk : p.size + 2 ≤ k) : errataref02_closing.f k p (f : Int) = some (clR p f) := by
  unfold errataref02_closing.f clR
  rw [w64 (by omega) (by omega), show (f : Int) + 1 = ((f + 1 : Nat) : Int) by omega, closing_l0 p hp p.size (f + 1) k (by omega) (by omega)]
  by_cases h : f < p.size
  · have hd : p.data.toList.drop f = p[f] :: p.data.toList.drop (f + 1) := by
      rw [List.drop_eq_getElem_cons (by rw [sz_toList]; exact h)]; rfl
    rw [hd]
    show _ = some (match (findB (p.data.toList.drop (f + 1))).map (· + 1) with | some n => ((f + n : Nat) : Int) | none => -1)
    cases findB (p.data.toList.drop (f + 1)) with
    | none => rfl
    | some n =>
      show some (((f + 1 + n : Nat)) : Int) = some (((f + (n + 1) : Nat)) : Int)
      rw [show f + 1 + n = f + (n + 1) by omega]
  · rw [List.drop_of_length_le (i := f + 1) (by rw [sz_toList]; omega), List.drop_of_length_le (i := f) (by rw [sz_toList]; omega)]
    rfl

theorem byt_ext (p : ByteArray) (a n : Nat) : byt ((p.data.toList.drop a).take n) = p.extract a (a + n) := by
  unfold byt
  apply ByteArray.ext
  apply Array.ext'
  rw [ByteArray.data_extract, Array.toList_extract]
  simp [List.extract]
theorem byt_ext1 (p : ByteArray) (i : Nat) (h : i < p.size) : byt [p[i]] = p.extract i (i + 1) := by
  rw [← byt_ext p i 1, List.drop_eq_getElem_cons (by rw [sz_toList]; exact h)]; rfl
theorem dropc (p : ByteArray) (i : Nat) (h : i < p.size) : p.data.toList.drop i = p[i] :: p.data.toList.drop (i + 1) := by
  rw [List.drop_eq_getElem_cons (by rw [sz_toList]; exact h)]; rfl
theorem rp_esc (p : ByteArray) (i : Nat) (h : i < p.size) (h92 : (p[i].toNat : Int) = 92) (h2 : i + 1 < p.size) : rpt (p.data.toList.drop i) = ⟨0, (p[i + 1].toNat : Int), ⟨#[]⟩, false, p.extract i (i + 2)⟩ := by
  rw [← byt_ext p i 2, dropc p i h, rpt_eq, if_pos ⟨u8_eq (n := 92) (by omega) (by decide), by rw [dropc p (i + 1) h2]; exact fun e => by cases e⟩]
  rw [dropc p (i + 1) h2]; rfl
theorem rp_none (p : ByteArray) (i : Nat) (h : i < p.size) (h92 : ¬ ((p[i].toNat : Int) = 92 ∧ (i : Int) + 1 < (p.size : Int))) : ¬ (p[i] = 92 ∧ p.data.toList.drop (i + 1) ≠ []) := by
  rintro ⟨h1, h2⟩
  apply h92
  refine ⟨by rw [h1]; rfl, ?_⟩
  by_cases h3 : i + 1 < p.size
  · omega
  · exact absurd (List.drop_of_length_le (by rw [sz_toList]; omega)) h2
theorem rp_star (p : ByteArray) (i : Nat) (h : i < p.size) (hb : ¬ ((p[i].toNat : Int) = 92 ∧ (i : Int) + 1 < (p.size : Int))) (h42 : (p[i].toNat : Int) = 42) : rpt (p.data.toList.drop i) = ⟨1, (p[i].toNat : Int), ⟨#[]⟩, false, p.extract i (i + 1)⟩ := by
  rw [← byt_ext1 p i h, dropc p i h, rpt_eq, if_neg (rp_none p i h hb), if_pos (show p[i] = 42 from u8_eq (n := 42) (by omega) (by decide))]
theorem rp_any (p : ByteArray) (i : Nat) (h : i < p.size) (hb : ¬ ((p[i].toNat : Int) = 92 ∧ (i : Int) + 1 < (p.size : Int))) (h42 : ¬ (p[i].toNat : Int) = 42) (h63 : (p[i].toNat : Int) = 63) : rpt (p.data.toList.drop i) = ⟨2, (p[i].toNat : Int), ⟨#[]⟩, false, p.extract i (i + 1)⟩ := by
  rw [← byt_ext1 p i h, dropc p i h, rpt_eq, if_neg (rp_none p i h hb), if_neg (fun e => h42 (by rw [e]; rfl)), if_pos (show p[i] = 63 from u8_eq (n := 63) (by omega) (by decide))]
theorem rp_byte (p : ByteArray) (i : Nat) (h : i < p.size) (hb : ¬ ((p[i].toNat : Int) = 92 ∧ (i : Int) + 1 < (p.size : Int))) (h42 : ¬ (p[i].toNat : Int) = 42) (h63 : ¬ (p[i].toNat : Int) = 63) (h91 : ¬ (p[i].toNat : Int) = 91) : rpt (p.data.toList.drop i) = ⟨0, (p[i].toNat : Int), ⟨#[]⟩, false, p.extract i (i + 1)⟩ := by
  rw [← byt_ext1 p i h, dropc p i h, rpt_eq, if_neg (rp_none p i h hb), if_neg (fun e => h42 (by rw [e]; rfl)), if_neg (fun e => h63 (by rw [e]; rfl)), if_neg (fun e => h91 (by rw [e]; rfl))]
theorem rp_cls (p : ByteArray) (i : Nat) (h : i < p.size) (h91 : (p[i].toNat : Int) = 91) : rpt (p.data.toList.drop i) = (match cls (p.data.toList.drop (i + 1)) with
       | some (n, neg, set) => ⟨3, 0, byt set, neg, p.extract i (i + (n + 2))⟩
       | none => ⟨0, (p[i].toNat : Int), ⟨#[]⟩, false, p.extract i (i + 1)⟩) := by
  have e91 : p[i] = 91 := u8_eq (n := 91) (by omega) (by decide)
  rw [← byt_ext1 p i h, dropc p i h, rpt_eq, if_neg (fun hh => by rw [e91] at hh; exact absurd hh.1 (by decide)), if_neg (by rw [e91]; decide), if_neg (by rw [e91]; decide), if_pos e91]
  cases hc : cls (p.data.toList.drop (i + 1)) with
  | none => rfl
  | some q =>
    obtain ⟨n, neg, set⟩ := q
    show (⟨3, 0, byt set, neg, byt ((p[i] :: p.data.toList.drop (i + 1)).take (n + 2))⟩ : S84) = _
    rw [← dropc p i h, byt_ext]
theorem rp_not (p : ByteArray) (i n : Nat) (h : i < p.size) (h91 : (p[i].toNat : Int) = 91) (h2 : i + 1 < p.size) (h33 : (p[i + 1].toNat : Int) = 33) (hc : closeAt (p.data.toList.drop (i + 2)) = some n) : rpt (p.data.toList.drop i) = ⟨3, 0, p.extract (i + 2) (i + 2 + n), true, p.extract i (i + 2 + n + 1)⟩ := by
  rw [rp_cls p i h h91]
  have : cls (p.data.toList.drop (i + 1)) = some (n + 1, true, (p.data.toList.drop (i + 2)).take n) := by
    unfold cls
    rw [if_pos (by rw [dropc p (i + 1) h2, show p[i + 1] = 33 from u8_eq (n := 33) (by omega) (by decide)]; rfl), List.drop_drop, hc]
  rw [this]
  show (⟨3, 0, byt ((p.data.toList.drop (i + 2)).take n), true, p.extract i (i + (n + 1 + 2))⟩ : S84) = _
  rw [byt_ext, show i + (n + 1 + 2) = i + 2 + n + 1 by omega]
theorem rp_set (p : ByteArray) (i n : Nat) (h : i < p.size) (h91 : (p[i].toNat : Int) = 91) (h33 : (p.data.toList.drop (i + 1)).head? = some 33 → closeAt (p.data.toList.drop (i + 2)) = none) (hc : closeAt (p.data.toList.drop (i + 1)) = some n) : rpt (p.data.toList.drop i) = ⟨3, 0, p.extract (i + 1) (i + 1 + n), false, p.extract i (i + 1 + n + 1)⟩ := by
  rw [rp_cls p i h h91]
  have : cls (p.data.toList.drop (i + 1)) = some (n, false, (p.data.toList.drop (i + 1)).take n) := by
    unfold cls
    split
    · rename_i m hm
      split at hm
      · rename_i hh
        rw [List.drop_drop, h33 hh] at hm
        cases hm
      · cases hm
    · rw [hc]; rfl
  rw [this]
  show (⟨3, 0, byt ((p.data.toList.drop (i + 1)).take n), false, p.extract i (i + (n + 2))⟩ : S84) = _
  rw [byt_ext, show i + (n + 2) = i + 1 + n + 1 by omega]
theorem rp_open (p : ByteArray) (i : Nat) (h : i < p.size) (h91 : (p[i].toNat : Int) = 91) (h33 : (p.data.toList.drop (i + 1)).head? = some 33 → closeAt (p.data.toList.drop (i + 2)) = none) (hc : closeAt (p.data.toList.drop (i + 1)) = none) : rpt (p.data.toList.drop i) = ⟨0, (p[i].toNat : Int), ⟨#[]⟩, false, p.extract i (i + 1)⟩ := by
  rw [rp_cls p i h h91]
  have : cls (p.data.toList.drop (i + 1)) = none := by
    unfold cls
    split
    · rename_i m hm
      split at hm
      · rename_i hh
        rw [List.drop_drop, h33 hh] at hm
        cases hm
      · cases hm
    · rw [hc]; rfl
  rw [this]

theorem put5 {W : World} {b t : Nat} {a0 a1 a2 a3 a4 : Value} (h : W.heap[b]? = some (.cells #[a0, a1, a2, a3, a4] t (0, 0))) (c0 c1 c2 c3 c4 : Value) :
    (((((W.setCell ⟨b, 0, none⟩ c0).setCell ⟨b, 1, none⟩ c1).setCell ⟨b, 2, none⟩ c2).setCell ⟨b, 3, none⟩ c3).setCell ⟨b, 4, none⟩ c4).heap[b]? = some (.cells #[c0, c1, c2, c3, c4] t (0, 0)) :=
  blk_put (blk_put (blk_put (blk_put (blk_put h 0 c0 rfl) 1 c1 rfl) 2 c2 rfl) 3 c3 rfl) 4 c4 rfl
theorem below5 {w W : World} {b n : Nat} (h : Below n w W) (hn : n ≤ b) (c0 c1 c2 c3 c4 : Value) :
    Below n w (((((W.setCell ⟨b, 0, none⟩ c0).setCell ⟨b, 1, none⟩ c1).setCell ⟨b, 2, none⟩ c2).setCell ⟨b, 3, none⟩ c3).setCell ⟨b, 4, none⟩ c4) :=
  ((((h.setCell (p := ⟨b, 0, none⟩) hn _).setCell (p := ⟨b, 1, none⟩) hn _).setCell (p := ⟨b, 2, none⟩) hn _).setCell (p := ⟨b, 3, none⟩) hn _).setCell (p := ⟨b, 4, none⟩) hn _
theorem clR_none {p : ByteArray} {f : Nat} (h : closeAt (p.data.toList.drop f) = none) : clR p f = -1 := by unfold clR; rw [h]
theorem clR_some {p : ByteArray} {f n : Nat} (h : closeAt (p.data.toList.drop f) = some n) : clR p f = ((f + n : Nat) : Int) := by unfold clR; rw [h]

set_option maxHeartbeats 4000000 in
set_option maxRecDepth 100000 in
theorem parts_walk (p : ByteArray) (w : World) (hp : p.size ≤ 100000) :
    Calls Tryd.prog 63 #[.string p] w fun e w' => ∃ v : Value, e = .returned v ∧ Kd.R k84 84 w' w.heap.size (fun _ => True) v (rpts p.data.toList) ∧ Below w.heap.size w w' := by
  go_enter Tryd.func63, Tryd.ntmps63
  go_wp2_with fail
  go_loopg [3, 4] (p.size) (fun nn v3 v4 wr => ∃ (i : Nat) (xs : List S84), nn = p.size - i ∧ v4 = .int .i64 i ∧ i ≤ p.size ∧ xs.length ≤ i ∧ Aside0 (xs ++ rpts (p.data.toList.drop i) = rpts p.data.toList) ∧ Aside0 (Kd.R k84 84 wr w.heap.size (fun _ => True) v3 xs) ∧ Below w.heap.size w wr)
  case atStart => exact ⟨0, [], rfl, rfl, Nat.zero_le _, Nat.le_refl _, ⟨rfl⟩, ⟨Kd.R_nil _ _ _ _ _⟩, Below.refl _ _⟩
  case round =>
    obtain ⟨i, xs, rfl, rfl, hi, hl, hq, hR, hB⟩ := hrel
    obtain ⟨A, c, rfl⟩ := Kd.R_slice hR.out
    obtain ⟨wo, rfl⟩ : ∃ wo : World, wo = wr := ⟨_, rfl⟩
    by_cases hlt : i < p.size
    · have hd : p.data.toList.drop i = p[i] :: p.data.toList.drop (i + 1) := by
        rw [List.drop_eq_getElem_cons (by rw [sz_toList]; exact hlt)]; rfl
      have i0 : (0 : Int) ≤ (i : Int) := by omega
      have i1 : (i : Int) < (p.size : Int) := by omega
      have i2 : (i : Int) ≤ (i : Int) + 1 := by omega
      have i3 : (i : Int) + 1 ≤ (p.size : Int) := by omega
      have q1 : IntKind.i64.wrap ((i : Int) + 1) = (i : Int) + 1 := w64x' (by omega) (by omega)
      have q2 : IntKind.i64.wrap ((i : Int) + 2) = (i : Int) + 2 := w64x' (by omega) (by omega)
      have hqq := hq
      go_upto_region 4 with fail
      go_cut [5] from 7 to 109 (fun v5 wx => v5 = .pointer (some ⟨wo.heap.size, 0, none⟩) ∧ wx.heap[wo.heap.size]? = some (.cells #[.int .i64 0, .int .u8 (p[i].toNat : Int), .string ⟨#[]⟩, .bool false, .string (p.extract i (i + 1))] 84 (0, 0)) ∧ Below wo.heap.size wo wx)
      case first =>
        go_region_held3 (fun _ => True) (trivial) (fail)
        all_goals go_wp2_with fail
        all_goals go_meet
        all_goals exact ⟨rfl, blk_new _ _, below_drew1 ((Below.refl _ _).alloc (Nat.le_refl _) _)⟩
      case rest =>
        obtain ⟨rfl, hbx, hBw⟩ := hcut
        obtain ⟨W, rfl⟩ : ∃ W : World, W = wc := ⟨_, rfl⟩
        go_upto_region 5 with fail
        go_cut [5, 30] from 20 to 30 (fun v5 v30 wx => v5 = .pointer (some ⟨wo.heap.size, 0, none⟩) ∧ v30 = .bool (decide ((p[i].toNat : Int) = 92 ∧ (i : Int) + 1 < (p.size : Int))) ∧ wx = W)
        case first =>
          by_cases h92 : (p[i].toNat : Int) = 92
          · by_cases hi2 : (i : Int) + 1 < (p.size : Int)
            · go_wp2_with fail
              all_goals go_meet
              all_goals exact ⟨rfl, by rw [decide_eq_true ⟨h92, hi2⟩], rfl⟩
            · go_wp2_with fail
              all_goals go_meet
              all_goals exact ⟨rfl, by rw [decide_eq_false (fun h => absurd h.2 (Int.not_lt.2 (Int.not_lt.1 (by omega))))], rfl⟩
          · go_wp2_with fail
            all_goals go_meet
            all_goals exact ⟨rfl, by rw [decide_eq_false (fun h => h92 h.1)], rfl⟩
        case rest =>
        obtain ⟨rfl, rfl, rfl⟩ := hcut
        obtain ⟨W, rfl⟩ : ∃ W : World, W = wc := ⟨_, rfl⟩
        go_upto_if 30 with fail
        go_cut [5, 6] from 30 to 100 (fun v5 v6 wx => v5 = .pointer (some ⟨wo.heap.size, 0, none⟩) ∧ wx.heap[wo.heap.size]? = some (.cells #[.int .i64 (rpt (p.data.toList.drop i)).f0, .int .u8 (rpt (p.data.toList.drop i)).f1, .string (rpt (p.data.toList.drop i)).f2, .bool (rpt (p.data.toList.drop i)).f3, .string (rpt (p.data.toList.drop i)).f4] 84 (0, 0)) ∧ Below wo.heap.size wo wx)
        case first =>
          have g0 : W.cell? ⟨wo.heap.size, 0, none⟩ = some (.int .i64 0) := blk_cell hbx 0
          have g1 : W.cell? ⟨wo.heap.size, 1, none⟩ = some (.int .u8 (p[i].toNat : Int)) := blk_cell hbx 1
          have g2 : W.cell? ⟨wo.heap.size, 2, none⟩ = some (.string ⟨#[]⟩) := blk_cell hbx 2
          have g3 : W.cell? ⟨wo.heap.size, 3, none⟩ = some (.bool false) := blk_cell hbx 3
          have g4 : W.cell? ⟨wo.heap.size, 4, none⟩ = some (.string (p.extract i (i + 1))) := blk_cell hbx 4
          have f0 := blk_frozen hbx 0
          have f1 := blk_frozen hbx 1
          have f2 := blk_frozen hbx 2
          have f3 := blk_frozen hbx 3
          have f4 := blk_frozen hbx 4
          by_cases hb : (p[i].toNat : Int) = 92 ∧ (i : Int) + 1 < (p.size : Int)
          · have hi2 := hb.2
            have hr : Aside0 (rpt (p.data.toList.drop i) = ⟨0, (p[i + 1].toNat : Int), ⟨#[]⟩, false, p.extract i (i + 2)⟩) := ⟨rp_esc p i hlt hb.1 (by omega)⟩
            have i4 : (0 : Int) ≤ (i : Int) + 1 := by omega
            have i5 : (i : Int) ≤ (i : Int) + 2 := by omega
            have i6 : (i : Int) + 2 ≤ (p.size : Int) := by omega
            rw [decide_eq_true hb]
            go_upto_region 6 with fail
            go_region_held3 (fun _ => True) (trivial) (fail)
            all_goals go_wp2_with fail
            all_goals go_meet
            all_goals exact ⟨rfl, by rw [hr.out]; exact put5 hbx _ _ _ _ _, below_drew1 (below5 hBw (Nat.le_refl _) _ _ _ _ _)⟩
          · rw [decide_eq_false hb]
            by_cases h42 : (p[i].toNat : Int) = 42
            · have hr : Aside0 (rpt (p.data.toList.drop i) = ⟨1, (p[i].toNat : Int), ⟨#[]⟩, false, p.extract i (i + 1)⟩) := ⟨rp_star p i hlt hb h42⟩
              clear hb
              go_wp2_with fail
              all_goals go_meet
              all_goals exact ⟨rfl, by rw [hr.out]; exact blk_put hbx 0 _ rfl, hBw.setCell (p := ⟨wo.heap.size, 0, none⟩) (Nat.le_refl _) _⟩
            · by_cases h63 : (p[i].toNat : Int) = 63
              · have hr : Aside0 (rpt (p.data.toList.drop i) = ⟨2, (p[i].toNat : Int), ⟨#[]⟩, false, p.extract i (i + 1)⟩) := ⟨rp_any p i hlt hb h42 h63⟩
                clear hb
                go_wp2_with fail
                all_goals go_meet
                all_goals exact ⟨rfl, by rw [hr.out]; exact blk_put hbx 0 _ rfl, hBw.setCell (p := ⟨wo.heap.size, 0, none⟩) (Nat.le_refl _) _⟩
              · by_cases h91 : (p[i].toNat : Int) = 91
                · clear hb
                  by_cases hi2 : (i : Int) + 1 < (p.size : Int)
                  · have i4 : (0 : Int) ≤ (i : Int) + 1 := by omega
                    have hi3 : i + 1 < p.size := by omega
                    have hd1 := dropc p (i + 1) hi3
                    by_cases h33 : (p[i + 1].toNat : Int) = 33
                    · have hB3 := hBw
                      cases hc2 : closeAt (p.data.toList.drop (i + 2)) with
                      | some n =>
                        have hcn := closeAt_lt _ _ hc2
                        rw [List.length_drop, sz_toList] at hcn
                        obtain ⟨m, hm⟩ : ∃ m, m = i + 2 + n := ⟨_, rfl⟩
                        have hcl : errataref02_closing.f (p.size + 2) p ((i : Int) + 2) = some (m : Int) := (closing_R p (by omega) (i + 2) (by omega) _ (by omega)).trans (congrArg some ((clR_some hc2).trans (by rw [hm])))
                        have hr : Aside0 (rpt (p.data.toList.drop i) = ⟨3, 0, p.extract (i + 2) m, true, p.extract i (m + 1)⟩) := ⟨by rw [hm]; exact rp_not p i n hlt h91 hi3 h33 hc2⟩
                        have m0 : (0 : Int) ≤ (m : Int) := by omega
                        have m1 : (i : Int) + 2 ≤ (m : Int) := by omega
                        have m2 : (m : Int) ≤ (p.size : Int) := by omega
                        have m3 : (i : Int) ≤ (m : Int) + 1 := by omega
                        have m4 : (m : Int) + 1 ≤ (p.size : Int) := by omega
                        have m5 : (0 : Int) ≤ (i : Int) + 2 := by omega
                        have qm : IntKind.i64.wrap ((m : Int) + 1) = (m : Int) + 1 := w64x' (by omega) (by omega)
                        clear hcn hm hc2
                        go_wp2_with fail
                        refine (errataref02_closing.calls _ p ((i : Int) + 2) (m : Int) _ hcl).mono ?_
                        rintro e w5 ⟨rfl, hd5⟩
                        have hb5 := blk_below hbx hd5.below
                        have hB5 := hBw.trans (hd5.below.mono hBw.size)
                        have g0 : w5.cell? ⟨wo.heap.size, 0, none⟩ = some (.int .i64 0) := blk_cell hb5 0
                        have g1 : w5.cell? ⟨wo.heap.size, 1, none⟩ = some (.int .u8 (p[i].toNat : Int)) := blk_cell hb5 1
                        have g2 : w5.cell? ⟨wo.heap.size, 2, none⟩ = some (.string ⟨#[]⟩) := blk_cell hb5 2
                        have g3 : w5.cell? ⟨wo.heap.size, 3, none⟩ = some (.bool false) := blk_cell hb5 3
                        have g4 : w5.cell? ⟨wo.heap.size, 4, none⟩ = some (.string (p.extract i (i + 1))) := blk_cell hb5 4
                        have f0 := blk_frozen hb5 0
                        have f1 := blk_frozen hb5 1
                        have f2 := blk_frozen hb5 2
                        have f3 := blk_frozen hb5 3
                        have f4 := blk_frozen hb5 4

                        go_upto_region 16 with fail
                        go_region_held3 (fun _ => True) (trivial) (fail)
                        all_goals go_wp2_with fail
                        all_goals go_meet
                        all_goals exact ⟨rfl, by rw [hr.out]; exact put5 hb5 _ _ _ _ _, below_drew1 (below5 hB5 (Nat.le_refl _) _ _ _ _ _)⟩
                      | none =>
                        have hcl : errataref02_closing.f (p.size + 2) p ((i : Int) + 2) = some (-1) := (closing_R p (by omega) (i + 2) (by omega) _ (by omega)).trans (congrArg some (clR_none hc2))
                        go_wp2_with fail
                        refine (errataref02_closing.calls _ p ((i : Int) + 2) (-1) _ hcl).mono ?_
                        rintro e w3 ⟨rfl, hd3⟩
                        have hb3 := blk_below hbx hd3.below
                        have hB3 := hBw.trans (hd3.below.mono hBw.size)
                        clear hcl
                        cases hc1 : closeAt (p.data.toList.drop (i + 1)) with
                        | none =>
                          have hcl : errataref02_closing.f (p.size + 2) p ((i : Int) + 1) = some (-1) := (closing_R p (by omega) (i + 1) (by omega) _ (by omega)).trans (congrArg some (clR_none hc1))
                          have hr : Aside0 (rpt (p.data.toList.drop i) = ⟨0, (p[i].toNat : Int), ⟨#[]⟩, false, p.extract i (i + 1)⟩) := ⟨rp_open p i hlt h91 (fun _ => hc2) hc1⟩
                          go_wp2_with fail
                          refine (errataref02_closing.calls _ p ((i : Int) + 1) (-1) _ hcl).mono ?_
                          rintro e w5 ⟨rfl, hd5⟩
                          go_wp2_with fail
                          go_meet
                          exact ⟨rfl, by rw [hr.out]; exact blk_below hb3 hd5.below, hB3.trans (hd5.below.mono hB3.size)⟩
                        | some n =>
                          have hcn := closeAt_lt _ _ hc1
                          rw [List.length_drop, sz_toList] at hcn
                          obtain ⟨m, hm⟩ : ∃ m, m = i + 1 + n := ⟨_, rfl⟩
                          have hcl : errataref02_closing.f (p.size + 2) p ((i : Int) + 1) = some (m : Int) := (closing_R p (by omega) (i + 1) (by omega) _ (by omega)).trans (congrArg some ((clR_some hc1).trans (by rw [hm])))
                          have hr : Aside0 (rpt (p.data.toList.drop i) = ⟨3, 0, p.extract (i + 1) m, false, p.extract i (m + 1)⟩) := ⟨by rw [hm]; exact rp_set p i n hlt h91 (fun _ => hc2) hc1⟩
                          have m0 : (0 : Int) ≤ (m : Int) := by omega
                          have m1 : (i : Int) + 1 ≤ (m : Int) := by omega
                          have m2 : (m : Int) ≤ (p.size : Int) := by omega
                          have m3 : (i : Int) ≤ (m : Int) + 1 := by omega
                          have m4 : (m : Int) + 1 ≤ (p.size : Int) := by omega
                          have m5 : (0 : Int) ≤ (i : Int) + 1 := by omega
                          have qm : IntKind.i64.wrap ((m : Int) + 1) = (m : Int) + 1 := w64x' (by omega) (by omega)
                          clear hcn hm hc1
                          go_wp2_with fail
                          refine (errataref02_closing.calls _ p ((i : Int) + 1) (m : Int) _ hcl).mono ?_
                          rintro e w5 ⟨rfl, hd5⟩
                          have hb5 := blk_below hb3 hd5.below
                          have hB5 := hB3.trans (hd5.below.mono hB3.size)
                          have g0 : w5.cell? ⟨wo.heap.size, 0, none⟩ = some (.int .i64 0) := blk_cell hb5 0
                          have g1 : w5.cell? ⟨wo.heap.size, 1, none⟩ = some (.int .u8 (p[i].toNat : Int)) := blk_cell hb5 1
                          have g2 : w5.cell? ⟨wo.heap.size, 2, none⟩ = some (.string ⟨#[]⟩) := blk_cell hb5 2
                          have g3 : w5.cell? ⟨wo.heap.size, 3, none⟩ = some (.bool false) := blk_cell hb5 3
                          have g4 : w5.cell? ⟨wo.heap.size, 4, none⟩ = some (.string (p.extract i (i + 1))) := blk_cell hb5 4
                          have f0 := blk_frozen hb5 0
                          have f1 := blk_frozen hb5 1
                          have f2 := blk_frozen hb5 2
                          have f3 := blk_frozen hb5 3
                          have f4 := blk_frozen hb5 4

                          go_upto_region 19 with fail
                          go_region_held3 (fun _ => True) (trivial) (fail)
                          all_goals go_wp2_with fail
                          all_goals go_meet
                          all_goals exact ⟨rfl, by rw [hr.out]; exact put5 hb5 _ _ _ _ _, below_drew1 (below5 hB5 (Nat.le_refl _) _ _ _ _ _)⟩
                    · have hn : (p.data.toList.drop (i + 1)).head? = some 33 → closeAt (p.data.toList.drop (i + 2)) = none := fun e => absurd (show (p[i + 1].toNat : Int) = 33 by rw [hd1] at e; rw [Option.some.inj e]; rfl) h33
                      cases hc1 : closeAt (p.data.toList.drop (i + 1)) with
                      | none =>
                        have hcl : errataref02_closing.f (p.size + 2) p ((i : Int) + 1) = some (-1) := (closing_R p (by omega) (i + 1) (by omega) _ (by omega)).trans (congrArg some (clR_none hc1))
                        have hr : Aside0 (rpt (p.data.toList.drop i) = ⟨0, (p[i].toNat : Int), ⟨#[]⟩, false, p.extract i (i + 1)⟩) := ⟨rp_open p i hlt h91 hn hc1⟩
                        go_wp2_with fail
                        refine (errataref02_closing.calls _ p ((i : Int) + 1) (-1) _ hcl).mono ?_
                        rintro e w5 ⟨rfl, hd5⟩
                        go_wp2_with fail
                        go_meet
                        exact ⟨rfl, by rw [hr.out]; exact blk_below hbx hd5.below, hBw.trans (hd5.below.mono hBw.size)⟩
                      | some n =>
                        have hcn := closeAt_lt _ _ hc1
                        rw [List.length_drop, sz_toList] at hcn
                        obtain ⟨m, hm⟩ : ∃ m, m = i + 1 + n := ⟨_, rfl⟩
                        have hcl : errataref02_closing.f (p.size + 2) p ((i : Int) + 1) = some (m : Int) := (closing_R p (by omega) (i + 1) (by omega) _ (by omega)).trans (congrArg some ((clR_some hc1).trans (by rw [hm])))
                        have hr : Aside0 (rpt (p.data.toList.drop i) = ⟨3, 0, p.extract (i + 1) m, false, p.extract i (m + 1)⟩) := ⟨by rw [hm]; exact rp_set p i n hlt h91 hn hc1⟩
                        have m0 : (0 : Int) ≤ (m : Int) := by omega
                        have m1 : (i : Int) + 1 ≤ (m : Int) := by omega
                        have m2 : (m : Int) ≤ (p.size : Int) := by omega
                        have m3 : (i : Int) ≤ (m : Int) + 1 := by omega
                        have m4 : (m : Int) + 1 ≤ (p.size : Int) := by omega
                        have m5 : (0 : Int) ≤ (i : Int) + 1 := by omega
                        have qm : IntKind.i64.wrap ((m : Int) + 1) = (m : Int) + 1 := w64x' (by omega) (by omega)
                        clear hcn hm hc1
                        go_wp2_with fail
                        refine (errataref02_closing.calls _ p ((i : Int) + 1) (m : Int) _ hcl).mono ?_
                        rintro e w5 ⟨rfl, hd5⟩
                        have hb5 := blk_below hbx hd5.below
                        have hB5 := hBw.trans (hd5.below.mono hBw.size)
                        have g0 : w5.cell? ⟨wo.heap.size, 0, none⟩ = some (.int .i64 0) := blk_cell hb5 0
                        have g1 : w5.cell? ⟨wo.heap.size, 1, none⟩ = some (.int .u8 (p[i].toNat : Int)) := blk_cell hb5 1
                        have g2 : w5.cell? ⟨wo.heap.size, 2, none⟩ = some (.string ⟨#[]⟩) := blk_cell hb5 2
                        have g3 : w5.cell? ⟨wo.heap.size, 3, none⟩ = some (.bool false) := blk_cell hb5 3
                        have g4 : w5.cell? ⟨wo.heap.size, 4, none⟩ = some (.string (p.extract i (i + 1))) := blk_cell hb5 4
                        have f0 := blk_frozen hb5 0
                        have f1 := blk_frozen hb5 1
                        have f2 := blk_frozen hb5 2
                        have f3 := blk_frozen hb5 3
                        have f4 := blk_frozen hb5 4

                        go_upto_region 19 with fail
                        go_region_held3 (fun _ => True) (trivial) (fail)
                        all_goals go_wp2_with fail
                        all_goals go_meet
                        all_goals exact ⟨rfl, by rw [hr.out]; exact put5 hb5 _ _ _ _ _, below_drew1 (below5 hB5 (Nat.le_refl _) _ _ _ _ _)⟩
                  · have hn : (p.data.toList.drop (i + 1)).head? = some 33 → closeAt (p.data.toList.drop (i + 2)) = none := fun e => by
                      rw [List.drop_of_length_le (by rw [sz_toList]; omega)] at e
                      cases e
                    cases hc1 : closeAt (p.data.toList.drop (i + 1)) with
                    | none =>
                      have hcl : errataref02_closing.f (p.size + 2) p ((i : Int) + 1) = some (-1) := (closing_R p (by omega) (i + 1) (by omega) _ (by omega)).trans (congrArg some (clR_none hc1))
                      have hr : Aside0 (rpt (p.data.toList.drop i) = ⟨0, (p[i].toNat : Int), ⟨#[]⟩, false, p.extract i (i + 1)⟩) := ⟨rp_open p i hlt h91 hn hc1⟩
                      go_wp2_with fail
                      refine (errataref02_closing.calls _ p ((i : Int) + 1) (-1) _ hcl).mono ?_
                      rintro e w5 ⟨rfl, hd5⟩
                      go_wp2_with fail
                      go_meet
                      exact ⟨rfl, by rw [hr.out]; exact blk_below hbx hd5.below, hBw.trans (hd5.below.mono hBw.size)⟩
                    | some n =>
                      have hcn := closeAt_lt _ _ hc1
                      rw [List.length_drop, sz_toList] at hcn
                      obtain ⟨m, hm⟩ : ∃ m, m = i + 1 + n := ⟨_, rfl⟩
                      have hcl : errataref02_closing.f (p.size + 2) p ((i : Int) + 1) = some (m : Int) := (closing_R p (by omega) (i + 1) (by omega) _ (by omega)).trans (congrArg some ((clR_some hc1).trans (by rw [hm])))
                      have hr : Aside0 (rpt (p.data.toList.drop i) = ⟨3, 0, p.extract (i + 1) m, false, p.extract i (m + 1)⟩) := ⟨by rw [hm]; exact rp_set p i n hlt h91 hn hc1⟩
                      have m0 : (0 : Int) ≤ (m : Int) := by omega
                      have m1 : (i : Int) + 1 ≤ (m : Int) := by omega
                      have m2 : (m : Int) ≤ (p.size : Int) := by omega
                      have m3 : (i : Int) ≤ (m : Int) + 1 := by omega
                      have m4 : (m : Int) + 1 ≤ (p.size : Int) := by omega
                      have m5 : (0 : Int) ≤ (i : Int) + 1 := by omega
                      have qm : IntKind.i64.wrap ((m : Int) + 1) = (m : Int) + 1 := w64x' (by omega) (by omega)
                      clear hcn hm hc1
                      go_wp2_with fail
                      refine (errataref02_closing.calls _ p ((i : Int) + 1) (m : Int) _ hcl).mono ?_
                      rintro e w5 ⟨rfl, hd5⟩
                      have hb5 := blk_below hbx hd5.below
                      have hB5 := hBw.trans (hd5.below.mono hBw.size)
                      have g0 : w5.cell? ⟨wo.heap.size, 0, none⟩ = some (.int .i64 0) := blk_cell hb5 0
                      have g1 : w5.cell? ⟨wo.heap.size, 1, none⟩ = some (.int .u8 (p[i].toNat : Int)) := blk_cell hb5 1
                      have g2 : w5.cell? ⟨wo.heap.size, 2, none⟩ = some (.string ⟨#[]⟩) := blk_cell hb5 2
                      have g3 : w5.cell? ⟨wo.heap.size, 3, none⟩ = some (.bool false) := blk_cell hb5 3
                      have g4 : w5.cell? ⟨wo.heap.size, 4, none⟩ = some (.string (p.extract i (i + 1))) := blk_cell hb5 4
                      have f0 := blk_frozen hb5 0
                      have f1 := blk_frozen hb5 1
                      have f2 := blk_frozen hb5 2
                      have f3 := blk_frozen hb5 3
                      have f4 := blk_frozen hb5 4

                      go_upto_region 19 with fail
                      go_region_held3 (fun _ => True) (trivial) (fail)
                      all_goals go_wp2_with fail
                      all_goals go_meet
                      all_goals exact ⟨rfl, by rw [hr.out]; exact put5 hb5 _ _ _ _ _, below_drew1 (below5 hB5 (Nat.le_refl _) _ _ _ _ _)⟩
                · have hr : Aside0 (rpt (p.data.toList.drop i) = ⟨0, (p[i].toNat : Int), ⟨#[]⟩, false, p.extract i (i + 1)⟩) := ⟨rp_byte p i hlt hb h42 h63 h91⟩
                  clear hb
                  go_wp2_with fail
                  all_goals go_meet
                  all_goals exact ⟨rfl, by rw [hr.out]; exact hbx, hBw⟩
        case rest =>
          obtain ⟨rfl, hbx, hBw⟩ := hcut
          have hpos := rpt_pos p[i] (p.data.toList.drop (i + 1))
          rw [← hd, List.length_drop, sz_toList] at hpos
          have hstep : rpts (p.data.toList.drop i) = rpt (p.data.toList.drop i) :: rpts (p.data.toList.drop (i + (rpt (p.data.toList.drop i)).f4.size)) := by
            rw [hd, rpts_cons, ← hd, List.drop_drop]
          obtain ⟨x, hx⟩ : ∃ x, x = rpt (p.data.toList.drop i) := ⟨_, rfl⟩
          rw [← hx] at hbx hpos hstep
          have hnx : Aside0 ((xs ++ [x]) ++ rpts (p.data.toList.drop (i + x.f4.size)) = rpts p.data.toList) := ⟨by rw [← hq.out, hstep, List.append_assoc]; rfl⟩
          clear hx hstep hd hqq hq
          obtain ⟨W, rfl⟩ : ∃ W : World, W = wc := ⟨_, rfl⟩
          have hnb : wo.heap.size < W.heap.size := blk_lt hbx
          have HR5 : Kd.R k84 84 W w.heap.size (fun k_ => k_ ≠ wo.heap.size) (.slice A xs.length c) xs :=
            Kd.R_below (Kd.R_mono (Kd.R_bound hR.out) (fun k_ hk_ => by have := hk_.2.2.1; omega)) hBw
          have HB5 : Below w.heap.size w W := hB.trans (hBw.mono hB.size)
          have hfr : ∀ k_, W.heap.size ≤ k_ → k_ ≠ wo.heap.size := fun k_ hk_ => by omega
          have hBs := HB5.size
          have g0 : W.cell? ⟨wo.heap.size, 0, none⟩ = some (.int .i64 x.f0) := blk_cell hbx 0
          have g1 : W.cell? ⟨wo.heap.size, 1, none⟩ = some (.int .u8 x.f1) := blk_cell hbx 1
          have g2 : W.cell? ⟨wo.heap.size, 2, none⟩ = some (.string x.f2) := blk_cell hbx 2
          have g3 : W.cell? ⟨wo.heap.size, 3, none⟩ = some (.bool x.f3) := blk_cell hbx 3
          have g4 : W.cell? ⟨wo.heap.size, 4, none⟩ = some (.string x.f4) := blk_cell hbx 4
          have HRA := Aside0.mk HR5
          have HBW := Aside0.mk hbx
          clear hbx
          have qa : IntKind.i64.wrap ((i : Int) + (x.f4.size : Int)) = ((i + x.f4.size : Nat) : Int) := by rw [w64x' (by omega) (by omega)]; omega
          have q0 : i + x.f4.size ≤ p.size := by omega
          have qx : 1 ≤ x.f4.size := hpos.1
          clear hpos
          go_wp2_with (at_builtin; refine Kd.R_append k84 (w0 := w) w.heap.size rfl (.tmp 101) (.tmp 103) 80 84 (.agg #[(.int .i64 0), (.int .u8 0), (.string ⟨#[]⟩), (.bool false), (.string ⟨#[]⟩)]) 56 rfl Tryd.underlying80 info84 rfl (by decide) (by decide) (.slice A xs.length c) xs x [.int .i64 x.f0, .int .u8 x.f1, .string x.f2, .bool x.f3, .string x.f4] (fun k_ => k_ ≠ wo.heap.size) (fun _ => False) rfl (by first | (go_simp; done) | (go_simp; rfl)) (k84_mkM _ _ _ x) (fun _ hk => hk.elim) hfr HR5 HB5 hBs (by omega) ?_)
          intro v3 w3 r3 b3 gr3 s3
          obtain ⟨A3, c3, rfl⟩ := Kd.R_slice r3
          have hbx3 := blk_grown (g := wo.heap.size) HBW.out gr3 (fun e => HRA.out.1 _ e.symm rfl)
          have k4 : w3.cell? ⟨wo.heap.size, 4, none⟩ = some (.string x.f4) := blk_cell hbx3 4
          have R3 := Aside0.mk (Kd.R_mono r3 (fun _ _ => trivial : ∀ k_, k_ ≠ wo.heap.size → (fun _ => True) k_))
          clear r3 gr3 s3 HR5 HRA HBW hbx3 hfr g0 g1 g2 g3 g4
          go_wp2_with fail
          go_roundg (p.size - (i + x.f4.size))
          case measure => omega
          case rel => exact ⟨i + x.f4.size, _, rfl, rfl, q0, by rw [List.length_append, List.length_singleton]; omega, hnx, by have := R3.out; exact ⟨by simpa only [List.length_append, List.length_singleton] using this⟩, b3⟩
    · have hie : i = p.size := by omega
      subst hie
      have hres : Aside0 (rpts p.data.toList = xs) := ⟨by rw [← hq.out, List.drop_of_length_le (by rw [sz_toList]; exact Nat.le_refl _)]; exact (List.append_nil _)⟩
      have j1 : ¬ (p.size : Int) < (p.size : Int) := by omega
      clear hq
      go_wp2_with fail
      go_ret
      exact ⟨_, rfl, by rw [hres.out]; exact hR.out, hB⟩
/-- What Parts answers. -/
def errataref02_Parts.f (a0 : ByteArray) : Option (List S84) := if a0.size ≤ 100000 then some (rpts a0.data.toList) else none
theorem errataref02_Parts.calls (a0 : ByteArray) (r : List S84) (w : World) (h : errataref02_Parts.f a0 = some r) :
    Calls Tryd.prog 63 #[.string a0] w fun e w' => ∃ v0_ : Value, e = .returned v0_ ∧ Kd.R k84 84 w' w.heap.size (fun _ => True) v0_ r ∧ Below w.heap.size w w' := by
  unfold errataref02_Parts.f at h
  by_cases hs : a0.size ≤ 100000
  · rw [if_pos hs] at h
    obtain rfl := Option.some.inj h
    exact parts_walk a0 w hs
  · rw [if_neg hs] at h; cases h
end Go.Proofs.YtfefbnfmngdicaaDoor.PX
