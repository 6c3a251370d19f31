/- The scanner's method skip, walked by hand: it skips white bytes and comments. -/
import Derived.Test.YtfefbnfmngdicaaDoorX1
import Derived.Test.YtfefbnfmngdicaaDoorShelf
import Derived.Test.YtfefbnfmngdicaaDoorPlain
import Derived.Deep.QuietTactic
import Derived.BigQuiet
import Derived.Deep.LoopGhost
import Derived.WalkMore
namespace Go.Proofs.YtfefbnfmngdicaaDoor.PX
set_option linter.unusedVariables false
set_option linter.unusedSimpArgs false
open Go.RowKit Go.Proofs.YtfefbnfmngdicaaDoorW.PrintWords Go.Proofs.YtfefbnfmngdicaaDoorW.PrintLast Go.Proofs.YtfefbnfmngdicaaDoorW.PrintMore

/-- Where the first LF stands; behind all, if there is none. -/
def lfAt : List UInt8 → Nat
  | [] => 0
  | c :: r => if c = 10 then 0 else lfAt r + 1
theorem lfAt_le : ∀ l : List UInt8, lfAt l ≤ l.length
  | [] => Nat.le_refl _
  | c :: r => by
    have := lfAt_le r
    unfold lfAt
    split
    · omega
    · rw [List.length_cons]; omega
theorem idx_lf : ∀ l : List UInt8, Lib.indexByte l 10 = if lfAt l = l.length then -1 else (lfAt l : Int)
  | [] => rfl
  | c :: r => by
    have ih := idx_lf r
    have hle := lfAt_le r
    unfold Lib.indexByte lfAt
    by_cases h : c = 10
    · rw [if_pos (beq_iff_eq.2 h), if_pos h, if_neg (by simp)]
      rfl
    · rw [if_neg (fun e => h (beq_iff_eq.1 e)), if_neg h, List.length_cons]
      by_cases g : lfAt r = r.length
      · have e : Lib.indexByte r 10 = -1 := by rw [ih, if_pos g]
        rw [e, if_pos (by decide), if_pos (by omega)]
      · have e : Lib.indexByte r 10 = (lfAt r : Int) := by rw [ih, if_neg g]
        rw [e, if_neg (fun x => by have := beq_iff_eq.1 x; omega), if_neg (by omega)]
        omega
/-- What is left behind white bytes and comments. -/
def skpF : Nat → List UInt8 → List UInt8
  | 0, l => l
  | k + 1, l => match l with
    | [] => []
    | c :: r => if c = 32 ∨ c = 9 ∨ c = 13 then skpF k r else if c = 35 then skpF k ((c :: r).drop (lfAt (c :: r))) else c :: r
def skp (l : List UInt8) : List UInt8 := skpF l.length l
theorem lfAt_hash (r : List UInt8) : lfAt (35 :: r) = lfAt r + 1 := if_neg (by decide)
theorem skpF_eq : ∀ (k k' : Nat) (l : List UInt8), l.length ≤ k → l.length ≤ k' → skpF k l = skpF k' l
  | 0, 0, _, _, _ => rfl
  | 0, k' + 1, l, h, _ => by
    have : l = [] := List.eq_nil_of_length_eq_zero (by omega)
    subst this
    rfl
  | k + 1, 0, l, _, h => by
    have : l = [] := List.eq_nil_of_length_eq_zero (by omega)
    subst this
    rfl
  | k + 1, k' + 1, [], _, _ => rfl
  | k + 1, k' + 1, c :: r, h, h' => by
    rw [List.length_cons] at h h'
    show (if c = 32 ∨ c = 9 ∨ c = 13 then skpF k r else if c = 35 then skpF k ((c :: r).drop (lfAt (c :: r))) else c :: r) = (if c = 32 ∨ c = 9 ∨ c = 13 then skpF k' r else if c = 35 then skpF k' ((c :: r).drop (lfAt (c :: r))) else c :: r)
    rw [skpF_eq k k' r (by omega) (by omega)]
    by_cases g : c = 35
    · subst g
      rw [skpF_eq k k' _ (by rw [lfAt_hash, List.length_drop, List.length_cons]; omega) (by rw [lfAt_hash, List.length_drop, List.length_cons]; omega)]
    · rw [if_neg g, if_neg g]
theorem skp_nil : skp [] = [] := rfl
theorem skp_white (c : UInt8) (r : List UInt8) (h : c = 32 ∨ c = 9 ∨ c = 13) : skp (c :: r) = skp r := if_pos h
theorem skp_hash (r : List UInt8) : skp (35 :: r) = skp ((35 :: r).drop (lfAt (35 :: r))) := by
  unfold skp
  rw [List.length_cons]
  show skpF r.length ((35 :: r).drop (lfAt (35 :: r))) = _
  exact skpF_eq _ _ _ (by rw [lfAt_hash, List.length_drop, List.length_cons]; omega) (Nat.le_refl _)
theorem skp_other (c : UInt8) (r : List UInt8) (h : ¬ (c = 32 ∨ c = 9 ∨ c = 13)) (h2 : c ≠ 35) : skp (c :: r) = c :: r := by
  show (if c = 32 ∨ c = 9 ∨ c = 13 then skpF r.length r else if c = 35 then skpF r.length ((c :: r).drop (lfAt (c :: r))) else c :: r) = _
  rw [if_neg h, if_neg h2]

theorem u8n {a : UInt8} {n : Nat} (h : a ≠ UInt8.ofNat n) (hn : n < 256) : ¬ (a.toNat : Int) = (n : Int) := fun e => h (u8_eq (by omega) hn)
theorem sc_drewN {B g : Nat} {src : ByteArray} {i : Nat} {ln : Int} {ts : List S43} {w : World} (h : Sc B g src i ln ts w) (n : Nat) : Sc B g src i ln ts (w.drewN n) := by
  obtain ⟨hBg, hBw, v, hb, r⟩ := h
  exact ⟨hBg, hBw, v, blk_drewN hb n, Kd.R_drewN r n⟩
theorem below_drewN' {B : Nat} {w W : World} (h : Below B w W) (n : Nat) : Below B w (W.drewN n) := by
  induction n with
  | zero => exact h
  | succ n ih => exact ih.drew
theorem idx10 (t : ByteArray) (n : Int) (h : Lib.indexByte t.data.toList 10 = n) (w : World) : Calls Tryd.prog 52 #[.string t, .int .u8 10] w fun e w' => e = .returned (.int .i64 n) ∧ w' = w :=
  (Tryd.strings_IndexByte t 10 w).mono fun e w' ⟨he, hw⟩ => ⟨by rw [he, ← h]; rfl, hw⟩
set_option maxHeartbeats 2000000 in
set_option maxRecDepth 100000 in
theorem skip_any (B g : Nat) (src : ByteArray) (i : Nat) (ln : Int) (ts : List S43) (w : World) (h : Sc B g src i ln ts w) (hi : i ≤ src.size) (hs : src.size ≤ 1000000) :
    Calls Tryd.prog 58 #[.pointer (some ⟨g, 0, none⟩)] w fun e w' => e = .returned (.tuple #[]) ∧ (∃ j, i ≤ j ∧ j ≤ src.size ∧ src.data.toList.drop j = skp (src.data.toList.drop i) ∧ Sc B g src j ln ts w') ∧ Below B w w' := by
  go_enter Tryd.func58, Tryd.ntmps58
  go_step3
  go_wp2
  go_step3
  go_wp2
  go_loopg [] (src.size - i) (fun n wr => ∃ j, n = src.size - j ∧ i ≤ j ∧ j ≤ src.size ∧ Aside0 (skp (src.data.toList.drop j) = skp (src.data.toList.drop i)) ∧ Aside0 (Sc B g src j ln ts wr) ∧ Below B w wr)
  case atStart => exact ⟨i, rfl, Nat.le_refl _, hi, ⟨rfl⟩, ⟨h⟩, Below.refl _ _⟩
  case round =>
    obtain ⟨j, rfl, hij, hj, hk, hS, hB⟩ := hrel
    obtain ⟨hBg, hBw, v, hb, hR⟩ := hS.out
    have c0 : wr.cell? ⟨g, 0, none⟩ = some (.string src) := blk_cell hb 0
    have c1 : wr.cell? ⟨g, 1, none⟩ = some (.int .i64 j) := blk_cell hb 1
    have f1 := blk_frozen hb 1
    by_cases hlt : j < src.size
    · have hd : src.data.toList.drop j = src[j] :: src.data.toList.drop (j + 1) := by
        rw [List.drop_eq_getElem_cons (by rw [sz_toList]; exact hlt)]; rfl
      have i0 : (0 : Int) ≤ (j : Int) := by omega
      have i1 : (j : Int) < (src.size : Int) := by omega
      have i2 : (j : Int) ≤ (src.size : Int) := by omega
      have w1 : IntKind.i64.wrap ((j : Int) + 1) = (j : Int) + 1 := w64x (by omega) (by omega)
      by_cases h32 : src[j] = 32
      · have e32 : ((src[j].toNat : Int) == 32) = true := by rw [h32]; rfl
        have hsk : Aside0 (skp (src.data.toList.drop (j + 1)) = skp (src.data.toList.drop i)) := ⟨by rw [← hk.out, hd, skp_white _ _ (by simp [h32])]⟩
        clear h32
        go_wp2_with fail
        go_quiet (fail)
        go_wp2_with fail
        go_quiet (fail)
        go_wp2_with fail
        go_roundg (src.size - (j + 1))
        case measure => omega
        case rel => exact ⟨j + 1, rfl, by omega, by omega, hsk, ⟨sc_at (sc_drewN hS.out _) (j + 1)⟩, (below_drewN' hB _).setCell (p := ⟨g, 1, none⟩) hBg _⟩
      by_cases h9 : src[j] = 9
      · have e9 : ((src[j].toNat : Int) == 9) = true := by rw [h9]; rfl
        have e32 : ((src[j].toNat : Int) == 32) = false := by rw [h9]; rfl
        have hsk : Aside0 (skp (src.data.toList.drop (j + 1)) = skp (src.data.toList.drop i)) := ⟨by rw [← hk.out, hd, skp_white _ _ (by simp [h9])]⟩
        clear h9 h32
        go_wp2_with fail
        go_quiet (fail)
        go_wp2_with fail
        go_quiet (fail)
        go_wp2_with fail
        go_roundg (src.size - (j + 1))
        case measure => omega
        case rel => exact ⟨j + 1, rfl, by omega, by omega, hsk, ⟨sc_at (sc_drewN hS.out _) (j + 1)⟩, (below_drewN' hB _).setCell (p := ⟨g, 1, none⟩) hBg _⟩
      by_cases h13 : src[j] = 13
      · have e13 : ((src[j].toNat : Int) == 13) = true := by rw [h13]; rfl
        have e32 : ((src[j].toNat : Int) == 32) = false := by rw [h13]; rfl
        have e9 : ((src[j].toNat : Int) == 9) = false := by rw [h13]; rfl
        have hsk : Aside0 (skp (src.data.toList.drop (j + 1)) = skp (src.data.toList.drop i)) := ⟨by rw [← hk.out, hd, skp_white _ _ (by simp [h13])]⟩
        clear h13 h32 h9
        go_wp2_with fail
        go_quiet (fail)
        go_wp2_with fail
        go_quiet (fail)
        go_wp2_with fail
        go_roundg (src.size - (j + 1))
        case measure => omega
        case rel => exact ⟨j + 1, rfl, by omega, by omega, hsk, ⟨sc_at (sc_drewN hS.out _) (j + 1)⟩, (below_drewN' hB _).setCell (p := ⟨g, 1, none⟩) hBg _⟩
      have e32 : ((src[j].toNat : Int) == 32) = false := beq_eq_false_iff_ne.2 (u8n h32 (by decide))
      have e9 : ((src[j].toNat : Int) == 9) = false := beq_eq_false_iff_ne.2 (u8n h9 (by decide))
      have e13 : ((src[j].toNat : Int) == 13) = false := beq_eq_false_iff_ne.2 (u8n h13 (by decide))
      by_cases h35 : src[j] = 35
      · have e35 : ((src[j].toNat : Int) == 35) = true := by rw [h35]; rfl
        have hx : (src.extract j src.size).data.toList = src.data.toList.drop j := by
          rw [Lib.extract_data]
          exact List.take_of_length_le (by rw [List.length_drop, sz_toList]; exact Nat.le_refl _)
        have hl := lfAt_le (src.data.toList.drop j)
        rw [List.length_drop, sz_toList] at hl
        have hlp : 1 ≤ lfAt (src.data.toList.drop j) := by rw [hd, h35, lfAt_hash]; omega
        have hsk : Aside0 (skp (src.data.toList.drop (j + lfAt (src.data.toList.drop j))) = skp (src.data.toList.drop i)) := ⟨by
          rw [← hk.out, ← List.drop_drop]
          conv => rhs; rw [hd, h35, skp_hash]
          rw [← h35, ← hd]⟩
        have hidx := idx_lf (src.data.toList.drop j)
        rw [List.length_drop, sz_toList] at hidx
        clear h35 h32 h9 h13
        by_cases hn : lfAt (src.data.toList.drop j) = src.size - j
        · rw [if_pos hn] at hidx
          have hidx' : Lib.indexByte (src.extract j src.size).data.toList 10 = -1 := by rw [hx]; exact hidx
          have w2 : IntKind.i64.wrap ((src.size : Int) - (j : Int)) = (src.size : Int) - (j : Int) := w64x (by omega) (by omega)
          have w3 : IntKind.i64.wrap ((j : Int) + ((src.size : Int) - (j : Int))) = (src.size : Int) := by rw [w64x (by omega) (by omega)]; omega
          go_wp2_with fail
          go_quiet (fail)
          go_wp2_with fail
          go_quiet (fail)
          go_wp2_with fail
          go_quiet ((go_at_call 52; refine (idx10 _ _ hidx' _).mono ?_; rintro e w' ⟨rfl, rfl⟩; exact ⟨rfl, _, rfl⟩))
          go_wp2_with fail
          go_quiet (fail)
          go_wp2_with fail
          go_roundg (src.size - src.size)
          case measure => omega
          case rel =>
            rw [hn, show j + (src.size - j) = src.size by omega] at hsk
            exact ⟨src.size, rfl, by omega, by omega, hsk, ⟨sc_at (sc_drewN hS.out _) src.size⟩, (below_drewN' hB _).setCell (p := ⟨g, 1, none⟩) hBg _⟩
        · rw [if_neg hn] at hidx
          have hidx' : Lib.indexByte (src.extract j src.size).data.toList 10 = ((lfAt (src.data.toList.drop j) : Nat) : Int) := by rw [hx]; exact hidx
          have hneg : ¬ ((lfAt (src.data.toList.drop j) : Nat) : Int) < 0 := by omega
          have w3 : IntKind.i64.wrap ((j : Int) + ((lfAt (src.data.toList.drop j) : Nat) : Int)) = ((j + lfAt (src.data.toList.drop j) : Nat) : Int) := by rw [w64x (by omega) (by omega)]; omega
          have hl2 := hl
          have hlp2 := hlp
          revert hidx' hneg w3 hsk hl2 hlp2
          clear hidx hn hl hlp
          generalize lfAt (src.data.toList.drop j) = m
          intro hsk hidx' hneg w3 hl2 hlp2
          go_wp2_with fail
          go_quiet (fail)
          go_wp2_with fail
          go_quiet (fail)
          go_wp2_with fail
          go_quiet ((go_at_call 52; refine (idx10 _ _ hidx' _).mono ?_; rintro e w' ⟨rfl, rfl⟩; exact ⟨rfl, _, rfl⟩))
          go_wp2_with fail
          go_roundg (src.size - (j + m))
          case measure => omega
          case rel => exact ⟨j + m, rfl, by omega, by omega, hsk, ⟨sc_at (sc_drewN hS.out _) (j + m)⟩, (below_drewN' hB _).setCell (p := ⟨g, 1, none⟩) hBg _⟩
      · have e35 : ((src[j].toNat : Int) == 35) = false := beq_eq_false_iff_ne.2 (u8n h35 (by decide))
        have hsk : Aside0 (src.data.toList.drop j = skp (src.data.toList.drop i)) := ⟨by
          rw [← hk.out]
          conv => rhs; rw [hd, skp_other _ _ (by rintro (e | e | e); exact h32 e; exact h9 e; exact h13 e) h35]
          exact hd⟩
        clear h35 h32 h9 h13
        go_wp2_with fail
        go_quiet (fail)
        go_wp2_with fail
        go_quiet (fail)
        go_wp2_with fail
        rw [Exit.noGoto_normal]
        go_end0
        exact ⟨rfl, ⟨j, hij, hj, hsk.out, sc_drewN hS.out _⟩, below_drewN' hB _⟩
    · have hje : j = src.size := by omega
      have i1 : ¬ (j : Int) < (src.size : Int) := by omega
      have hsk : Aside0 (src.data.toList.drop j = skp (src.data.toList.drop i)) := ⟨by
        rw [← hk.out, List.drop_of_length_le (i := j) (by rw [sz_toList]; omega)]
        rfl⟩
      go_wp2_with fail
      go_quiet (fail)
      go_wp2_with fail
      rw [Exit.noGoto_normal]
      go_end0
      exact ⟨rfl, ⟨j, hij, hj, hsk.out, sc_drewN hS.out _⟩, below_drewN' hB _⟩
end Go.Proofs.YtfefbnfmngdicaaDoor.PX
