/- The walk of Pattern: the search with one remembered star answers whether the parts match. -/
import Derived.Test.YtfefbnfmngdicaaDoorL3
import Derived.Deep.LoopGhost
namespace Go.Proofs.YtfefbnfmngdicaaDoor.PX
set_option linter.unusedVariables false
set_option linter.unusedSimpArgs false
open Go.RowKit Go.Proofs.YtfefbnfmngdicaaDoorW.PrintWords Go.Proofs.YtfefbnfmngdicaaDoorW.PrintLast

/-- What every round lowers: first the star's place, then where it was tried, then the place in the pattern. -/
def meas (P S : Nat) (v6 v7 v5 : Value) : Nat := ((P + 1 - (intOf v6 + 1).toNat) * (S + 1) + (S - (intOf v7).toNat)) * (P + 1) + (P - (intOf v5).toNat)
theorem lex1 {P S a a' b b' c c' : Nat} (h : a' < a) (hb : b' ≤ S) (hc : c' ≤ P) : (a' * (S + 1) + b') * (P + 1) + c' < (a * (S + 1) + b) * (P + 1) + c := by
  have h1 : (a' + 1) * (S + 1) ≤ a * (S + 1) := Nat.mul_le_mul_right _ h
  have h2 : a' * (S + 1) + b' + 1 ≤ a * (S + 1) + b := by rw [Nat.add_mul] at h1; omega
  have h3 : (a' * (S + 1) + b' + 1) * (P + 1) ≤ (a * (S + 1) + b) * (P + 1) := Nat.mul_le_mul_right _ h2
  rw [Nat.add_mul (a' * (S + 1) + b')] at h3
  omega
theorem lex2 {P S a b b' c c' : Nat} (h : b' < b) (hc : c' ≤ P) : (a * (S + 1) + b') * (P + 1) + c' < (a * (S + 1) + b) * (P + 1) + c := by
  have h2 : a * (S + 1) + b' + 1 ≤ a * (S + 1) + b := by omega
  have h3 : (a * (S + 1) + b' + 1) * (P + 1) ≤ (a * (S + 1) + b) * (P + 1) := Nat.mul_le_mul_right _ h2
  rw [Nat.add_mul (a * (S + 1) + b')] at h3
  omega
theorem meas_starN (P S i : Nat) (u : Nat) (x : Value) (hi : i < P) : meas P S (.int .i64 i) (.int .i64 u) x < meas P S (.int .i64 (-1)) (.int .i64 0) (.int .i64 i) := by
  unfold meas
  simp only [intOf]
  exact lex1 (by omega) (by omega) (by omega)
theorem meas_starS (P S i j ag : Nat) (u : Nat) (x : Value) (hi : i < P) (hj : j < i) : meas P S (.int .i64 i) (.int .i64 u) x < meas P S (.int .i64 j) (.int .i64 ag) (.int .i64 i) := by
  unfold meas
  simp only [intOf]
  exact lex1 (by omega) (by omega) (by omega)
theorem meas_ok (P S i : Nat) (a b : Value) (n : Int) (hi : i < P) (hn : 1 ≤ n) : meas P S a b (.int .i64 (i + n)) < meas P S a b (.int .i64 i) := by
  unfold meas
  simp only [intOf]
  omega
theorem meas_back (P S j ag : Nat) (x y : Value) (h : ag < S) : meas P S (.int .i64 j) (.int .i64 ((ag : Int) + 1)) x < meas P S (.int .i64 j) (.int .i64 ag) y := by
  unfold meas
  simp only [intOf]
  exact lex2 (by omega) (by omega)

def StateN (p s : ByteArray) (i u : Nat) (v6 v7 : Value) : Prop := v6 = .int .i64 (-1) ∧ v7 = .int .i64 0 ∧ InvN p.data.toList s.data.toList i u
def StateS (p s : ByteArray) (i u : Nat) (v6 v7 : Value) : Prop := ∃ j ag : Nat, v6 = .int .i64 j ∧ v7 = .int .i64 ag ∧ InvS p.data.toList s.data.toList j ag i u

set_option maxHeartbeats 40000000 in
set_option maxRecDepth 100000 in
theorem pattern_any (p s : ByteArray) (w : World) (hp : p.size ≤ 1000000) (hs : s.size ≤ 1000000) :
    Calls Tryd.prog 18 #[.string p, .string s] w fun e w' => e = .returned (.bool (mt (pts p.data.toList) s.data.toList)) ∧ Below w.heap.size w w' := by
  have hpl := Nat.le_of_eq (sz_toList p)
  have hpl2 := Nat.le_of_eq (sz_toList p).symm
  have hsl := Nat.le_of_eq (sz_toList s)
  have hsl2 := Nat.le_of_eq (sz_toList s).symm
  go_enter Tryd.func18, Tryd.ntmps18
  go_wp2
  go_step3
  go_wp2
  go_step3
  go_wp2
  go_loopw [5, 6, 7, 8] (fun v5 v6 v7 v8 wr => ∃ i u : Nat, v5 = .int .i64 i ∧ v8 = .int .i64 u ∧ i ≤ p.size ∧ u ≤ s.size ∧ (StateN p s i u v6 v7 ∨ StateS p s i u v6 v7) ∧ Below w.heap.size w wr) (fun v5 v6 v7 _ _ => meas p.size s.size v6 v7 v5)
  case atStart => exact ⟨0, 0, rfl, rfl, Nat.zero_le _, Nat.zero_le _, .inl ⟨rfl, rfl, invN_start _ _⟩, Below.refl _ _⟩
  case round =>
    obtain ⟨i, u, rfl, rfl, hi, hu, hst, hB⟩ := hrel

    by_cases hip : i < p.size
    · by_cases h42 : p[i] = 42
      · have g1 : 42 ≤ p[i].toNat := by rw [h42]; decide
        have g2 : p[i].toNat ≤ 42 := by rw [h42]; decide
        have hg := Lib.hid (show p.data.toList[i]'(by omega) = 42 from (get_list p i hip).symm.trans h42)
        clear h42
        rcases hst with hst | hst
        · obtain ⟨rfl, rfl, hv⟩ := hst
          have hnew := invN_star hv (by omega) hg.out
          clear hv
          go_wp2
          go_roundw
          case rel => exact ⟨i + 1, u, by go_num, rfl, by omega, hu, .inr ⟨i, u, rfl, rfl, hnew⟩, hB⟩
          case measure => exact meas_starN _ _ _ _ _ hip
        · obtain ⟨j, ag, rfl, rfl, hv⟩ := hst
          have hjl := hv.hj
          have hagl := hv.hag
          have hnew := invS_star hv (by omega) hg.out
          clear hv
          go_wp2
          go_roundw
          case rel => exact ⟨i + 1, u, by go_num, rfl, by omega, hu, .inr ⟨i, u, rfl, rfl, hnew⟩, hB⟩
          case measure => exact meas_starS _ _ _ _ _ _ _ hip hjl
      · have g0 : ((p[i].toNat : Int) == 42) = false := by rw [beq_eq_false_iff_ne]; exact u8_ne (n := 42) h42 (by decide)
        have g0n : p[i].toNat ≠ 42 := fun h => h42 (u8_eq h (by decide))
        have epI : ((i : Int) == (p.size : Int)) = false := by rw [beq_eq_false_iff_ne]; omega
        have epN : ((i : Nat) == p.size) = false := by rw [beq_eq_false_iff_ne]; omega
        by_cases huu : u < s.size
        · obtain ⟨f, n, hpart, hone⟩ := one_eq (2 * p.size + 10) p i s[u] hp hip h42 (Nat.le_refl _)
          have hn1 : 1 ≤ n := by have := part1_pos (p.data.toList.drop i); rw [hpart] at this; exact this
          have hn2 : i + n ≤ p.size := by have := part1_le (p.data.toList.drop i) (by intro e; have := congrArg List.length e; rw [List.length_drop] at this; simp at this; omega); rw [hpart, List.length_drop] at this; simp at this; omega
          have hone := Lib.hid hone
          have hpart := Lib.hid hpart
          clear h42
          cases hfx : f s[u] with
          | true =>
            have hfl := Lib.hid (show f (s.data.toList[u]'(by omega)) = true from by rw [← get_list s u huu]; exact hfx)
            have hfx := Lib.hid hfx
            rcases hst with hst | hst
            · obtain ⟨rfl, rfl, hv⟩ := hst
              have hnew := invN_ok hv (by omega) (by omega) f n hpart.out hfl.out
              clear hv
              go_wp2_with fail
              refine (text_one.calls (2 * p.size + 10) p i (s[u].toNat) n (f s[u]) _ hone.out).mono ?_
              rintro e w1 ⟨rfl, b1⟩
              have hB1 := below_then hB hB.size b1
              rw [hfx.out]
              go_wp2
              go_roundw
              case rel => exact ⟨i + n, u + 1, by go_num, by go_num, hn2, by omega, .inl ⟨rfl, rfl, hnew⟩, hB1⟩
              case measure => exact meas_ok _ _ _ _ _ _ hip (by omega)
            · obtain ⟨j, ag, rfl, rfl, hv⟩ := hst
              have hjl := hv.hj
              have hagl := hv.hag
              have hnew := invS_ok hv (by omega) (by omega) f n hpart.out hfl.out
              clear hv
              go_wp2_with fail
              refine (text_one.calls (2 * p.size + 10) p i (s[u].toNat) n (f s[u]) _ hone.out).mono ?_
              rintro e w1 ⟨rfl, b1⟩
              have hB1 := below_then hB hB.size b1
              rw [hfx.out]
              go_wp2
              go_roundw
              case rel => exact ⟨i + n, u + 1, by go_num, by go_num, hn2, by omega, .inr ⟨j, ag, rfl, rfl, hnew⟩, hB1⟩
              case measure => exact meas_ok _ _ _ _ _ _ hip (by omega)
          | false =>
            have hfl := Lib.hid (show f (s.data.toList[u]'(by omega)) = false from by rw [← get_list s u huu]; exact hfx)
            have hfx := Lib.hid hfx
            rcases hst with hst | hst
            · obtain ⟨rfl, rfl, hv⟩ := hst
              have hans := Lib.hid (invN_no hv (stuck_byte (by omega) (by omega) f n hpart.out hfl.out))
              clear hv
              go_wp2_with fail
              refine (text_one.calls (2 * p.size + 10) p i (s[u].toNat) n (f s[u]) _ hone.out).mono ?_
              rintro e w1 ⟨rfl, b1⟩
              have hB1 := below_then hB hB.size b1
              rw [hfx.out]
              go_wp2
              try rw [Exit.noGoto_ret]
              go_ret
              exact ⟨by rw [hans.out]; rfl, hB1⟩
            · obtain ⟨j, ag, rfl, rfl, hv⟩ := hst
              have hjl := hv.hj
              have hagl := hv.hag
              by_cases hag : ag < s.size
              · have hnew := invS_back hv (stuck_byte (by omega) (by omega) f n hpart.out hfl.out) (by omega)
                have eaI : ((ag : Int) == (s.size : Int)) = false := by rw [beq_eq_false_iff_ne]; omega
                have eaN : ((ag : Nat) == s.size) = false := by rw [beq_eq_false_iff_ne]; omega
                clear hv
                go_wp2_with fail
                refine (text_one.calls (2 * p.size + 10) p i (s[u].toNat) n (f s[u]) _ hone.out).mono ?_
                rintro e w1 ⟨rfl, b1⟩
                have hB1 := below_then hB hB.size b1
                rw [hfx.out]
                go_wp2
                go_roundw
                case rel => exact ⟨j + 1, ag + 1, by go_num, by go_num, by omega, by omega, .inr ⟨j, ag + 1, rfl, by go_num, hnew⟩, hB1⟩
                case measure => exact meas_back _ _ _ _ _ _ hag
              · have hans := Lib.hid (invS_no hv (stuck_byte (by omega) (by omega) f n hpart.out hfl.out) (by omega))
                have eaI : ((ag : Int) == (s.size : Int)) = true := by rw [beq_iff_eq]; omega
                have eaN : ((ag : Nat) == s.size) = true := by rw [beq_iff_eq]; omega
                clear hv
                go_wp2_with fail
                refine (text_one.calls (2 * p.size + 10) p i (s[u].toNat) n (f s[u]) _ hone.out).mono ?_
                rintro e w1 ⟨rfl, b1⟩
                have hB1 := below_then hB hB.size b1
                rw [hfx.out]
                go_wp2
                try rw [Exit.noGoto_ret]
                go_ret
                exact ⟨by rw [hans.out]; rfl, hB1⟩
        · obtain ⟨f, n, hpart, -⟩ := one_eq (2 * p.size + 10) p i 0 hp hip h42 (Nat.le_refl _)
          have hpart := Lib.hid hpart
          clear h42
          rcases hst with hst | hst
          · obtain ⟨rfl, rfl, hv⟩ := hst
            have hans := Lib.hid (invN_no hv (stuck_short (by omega) (by omega) f n hpart.out))
            clear hv
            go_wp2
            try rw [Exit.noGoto_ret]
            go_ret
            exact ⟨by rw [hans.out]; rfl, hB⟩
          · obtain ⟨j, ag, rfl, rfl, hv⟩ := hst
            have hjl := hv.hj
            have hagl := hv.hag
            by_cases hag : ag < s.size
            · have hnew := invS_back hv (stuck_short (by omega) (by omega) f n hpart.out) (by omega)
              have eaI : ((ag : Int) == (s.size : Int)) = false := by rw [beq_eq_false_iff_ne]; omega
              have eaN : ((ag : Nat) == s.size) = false := by rw [beq_eq_false_iff_ne]; omega
              clear hv
              go_wp2
              go_roundw
              case rel => exact ⟨j + 1, ag + 1, by go_num, by go_num, by omega, by omega, .inr ⟨j, ag + 1, rfl, by go_num, hnew⟩, hB⟩
              case measure => exact meas_back _ _ _ _ _ _ hag
            · have hans := Lib.hid (invS_no hv (stuck_short (by omega) (by omega) f n hpart.out) (by omega))
              have eaI : ((ag : Int) == (s.size : Int)) = true := by rw [beq_iff_eq]; omega
              have eaN : ((ag : Nat) == s.size) = true := by rw [beq_iff_eq]; omega
              clear hv
              go_wp2
              try rw [Exit.noGoto_ret]
              go_ret
              exact ⟨by rw [hans.out]; rfl, hB⟩
    · by_cases huu : u < s.size
      · have q0 : ¬ ((i : Int) < (p.size : Int)) := by omega
        have eqI : ((u : Int) == (s.size : Int)) = false := by rw [beq_eq_false_iff_ne]; omega
        have eqN : ((u : Nat) == s.size) = false := by rw [beq_eq_false_iff_ne]; omega
        rcases hst with hst | hst
        · obtain ⟨rfl, rfl, hv⟩ := hst
          have hans := Lib.hid (invN_no hv (stuck_end (by omega) (by omega)))
          clear hv
          go_wp2
          try rw [Exit.noGoto_ret]
          go_ret
          exact ⟨by rw [hans.out]; rfl, hB⟩
        · obtain ⟨j, ag, rfl, rfl, hv⟩ := hst
          have hjl := hv.hj
          have hagl := hv.hag
          by_cases hag : ag < s.size
          · have hnew := invS_back hv (stuck_end (by omega) (by omega)) (by omega)
            have eaI : ((ag : Int) == (s.size : Int)) = false := by rw [beq_eq_false_iff_ne]; omega
            have eaN : ((ag : Nat) == s.size) = false := by rw [beq_eq_false_iff_ne]; omega
            clear hv
            go_wp2
            go_roundw
            case rel => exact ⟨j + 1, ag + 1, by go_num, by go_num, by omega, by omega, .inr ⟨j, ag + 1, rfl, by go_num, hnew⟩, hB⟩
            case measure => exact meas_back _ _ _ _ _ _ hag
          · omega
      · obtain rfl : i = p.size := by omega
        obtain rfl : u = s.size := by omega
        have hans := Lib.hid (show mt (pts p.data.toList) s.data.toList = true from by
          rcases hst with ⟨-, -, hv⟩ | ⟨j, ag, -, -, hv⟩
          · rw [← sz_toList p, ← sz_toList s] at hv
            exact invN_yes hv
          · rw [← sz_toList p, ← sz_toList s] at hv
            exact invS_yes hv)
        clear hst
        go_wp2
        try rw [Exit.noGoto_ret]
        go_ret
        exact ⟨by rw [hans.out]; rfl, hB⟩
end Go.Proofs.YtfefbnfmngdicaaDoor.PX
