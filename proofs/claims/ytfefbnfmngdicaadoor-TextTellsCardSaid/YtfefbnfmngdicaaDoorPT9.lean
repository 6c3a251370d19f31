-- Written by a program of this session (wip/tools): the kit's printer, turned to take contracts that were proved by hand.
import Derived.Test.YtfefbnfmngdicaaDoorPX0
import Derived.Test.YtfefbnfmngdicaaDoorPX2
import Derived.Test.YtfefbnfmngdicaaDoorPT2
import Derived.Test.YtfefbnfmngdicaaDoorPX4
import Derived.Test.YtfefbnfmngdicaaDoorPT4
import Derived.Test.YtfefbnfmngdicaaDoorPT5
import Derived.Test.YtfefbnfmngdicaaDoorPT6
import Derived.Test.YtfefbnfmngdicaaDoorPT7
import Derived.Test.YtfefbnfmngdicaaDoorPX16
import Derived.Test.YtfefbnfmngdicaaDoorE1
import Derived.Test.YtfefbnfmngdicaaDoorE2
import Derived.Test.YtfefbnfmngdicaaDoorE3
import Derived.Test.YtfefbnfmngdicaaDoorE4
import Derived.Test.YtfefbnfmngdicaaDoorEnv
namespace Go.Proofs.YtfefbnfmngdicaaDoor.PX
open Go.RowKit Go.Proofs.YtfefbnfmngdicaaDoorW.PrintWords Go.Proofs.YtfefbnfmngdicaaDoorW.PrintLast
set_option linter.unusedVariables false
set_option linter.unusedSimpArgs false

/-! ### erratalaw02_TextTells: function 12 -/
mutual
def erratalaw02_TextTells.j0 : Nat → Int → ByteArray → ByteArray → List ByteArray → Bool → Bool → Option (Bool)
  | 0, _, _, _, _, _, _ => none
  | k + 1, x0, x1, x2, x3, x9, x32 => if x32 = true then (some x9) else (erratalaw02_TextTells.l0 k x0 x1 x2 x3 x9 0)
def erratalaw02_TextTells.l0 : Nat → Int → ByteArray → ByteArray → List ByteArray → Bool → Int → Option (Bool)
  | 0, _, _, _, _, _, _ => none
  | k + 1, x0, x1, x2, x3, x9, x10 => if x10 < (x3.length : Int) then (if 0 ≤ x10 then (if ((rdOf ByteArray.empty x3 x10).size : Int) > 100 then (some x9) else (erratalaw02_TextTells.l0 k x0 x1 x2 x3 x9 (wrap64 (x10 + 1)))) else (none)) else ((text_Int.f x1).bind fun bt268 => ((errataref02_Int.f k x1).bind fun bt270 => ((text_Unquote.f x1).bind fun bt272 => ((errataref02_Unquote.f k x1).bind fun bt274 => (if bt268.1 = bt270.1 then (if (bt268.2 != bt270.2) = true then (erratalaw02_TextTells.j2 k x1 x2 x3 x9 true) else (if bt272.1.toList = bt274.1.toList then (if (bt272.2 != bt274.2) = true then (erratalaw02_TextTells.j2 k x1 x2 x3 x9 true) else ((text_Decimal.f x0).bind fun t276 => ((errataref02_Decimal.f k x0).bind fun t277 => (if t276.toList = t277.toList then ((text_Quote.f x1).bind fun t278 => ((errataref02_Quote.f k x1).bind fun t279 => (erratalaw02_TextTells.j2 k x1 x2 x3 x9 (t278.toList != t279.toList)))) else (erratalaw02_TextTells.j2 k x1 x2 x3 x9 true))))) else (erratalaw02_TextTells.j2 k x1 x2 x3 x9 true))) else (erratalaw02_TextTells.j2 k x1 x2 x3 x9 true))))))
def erratalaw02_TextTells.j2 : Nat → ByteArray → ByteArray → List ByteArray → Bool → Bool → Option (Bool)
  | 0, _, _, _, _, _ => none
  | k + 1, x1, x2, x3, x9, x98 => if x98 = true then (some false) else ((text_Lines.f x1).bind fun t280 => ((errataref02_Lines.f k x1).bind fun t283 => ((errataref02_Same.f k t280 t283).bind fun t286 => (if t286 = true then ((text_Unlines.f x3).bind fun t287 => ((errataref02_Unlines.f k x3).bind fun t288 => (if t287.toList = t288.toList then ((text_Fields.f x1).bind fun t289 => ((errataref02_Fields.f k x1).bind fun t292 => ((errataref02_Same.f k t289 t292).bind fun t295 => (erratalaw02_TextTells.j3 k x1 x2 x9 (!t295))))) else (erratalaw02_TextTells.j3 k x1 x2 x9 true)))) else (erratalaw02_TextTells.j3 k x1 x2 x9 true)))))
def erratalaw02_TextTells.j3 : Nat → ByteArray → ByteArray → Bool → Bool → Option (Bool)
  | 0, _, _, _, _ => none
  | k + 1, x1, x2, x9, x119 => if x119 = true then (some false) else (if x9 = true then ((text_Pattern.f x2 x1).bind fun t296 => ((errataref02_Pattern.f k x2 x1).bind fun t297 => (if (t296 == t297) = true then ((text_Magic.f k x2).bind fun t298 => ((errataref02_Magic.f k x2).bind fun t299 => (if (t298 == t299) = true then ((text_Plain.f x2).bind fun t300 => ((errataref02_Plain.f k x2).bind fun t301 => (if t300.toList = t301.toList then ((text_Escape.f x1).bind fun t302 => ((errataref02_Escape.f k x1).bind fun t303 => (some (t302.toList == t303.toList)))) else (some false)))) else (some false)))) else (some false)))) else (some false))
end
def erratalaw02_TextTells.f (k : Nat) (a0 : Int) (a1 : ByteArray) (a2 : ByteArray) (l3 : List ByteArray) : Option (Bool) := (erratalaw02_small.f k).bind fun t266 => (if (a1.size : Int) > 300 then (erratalaw02_TextTells.j0 k a0 a1 a2 l3 t266 true) else (if (a2.size : Int) > 100 then (erratalaw02_TextTells.j0 k a0 a1 a2 l3 t266 true) else (erratalaw02_TextTells.j0 k a0 a1 a2 l3 t266 (decide ((l3.length : Int) > 30)))))
set_option maxHeartbeats 8000000 in
set_option maxRecDepth 100000 in
theorem erratalaw02_TextTells.calls (k : Nat) (a0 : Int) (a1 : ByteArray) (a2 : ByteArray) (A3 : Option Addr) (c3 : Nat) (l3 : List ByteArray) (r : Bool) (w : World) (hE : Env w) (hr3 : Kd.C Kd.string w A3 l3.length l3) (hc3 : l3.length ≤ c3) (h : erratalaw02_TextTells.f k a0 a1 a2 l3 = some r) :
    Calls Tryd.prog 12 #[.int .i64 a0, .string a1, .string a2, .slice A3 l3.length c3] w fun e w' => e = .returned (.bool r) ∧ Below w.heap.size w w' := by
  have HR3 := Aside0.mk hr3
  have HC3 := Aside0.mk hc3
  clear hr3 hc3
  have HB := Aside0.mk (Below.refl w.heap.size w)
  have HE := Aside0.mk hE
  clear hE
  have H : ((erratalaw02_small.f k).bind fun t266 => (if (a1.size : Int) > 300 then (erratalaw02_TextTells.j0 k a0 a1 a2 l3 t266 true) else (if (a2.size : Int) > 100 then (erratalaw02_TextTells.j0 k a0 a1 a2 l3 t266 true) else (erratalaw02_TextTells.j0 k a0 a1 a2 l3 t266 (decide ((l3.length : Int) > 30)))))) = some r := h
  clear h
  replace H := Option.bind_eq_some_iff.mp H
  obtain ⟨t266, A50, H⟩ := H
  replace H : (if (a1.size : Int) > 300 then (erratalaw02_TextTells.j0 k a0 a1 a2 l3 t266 true) else (if (a2.size : Int) > 100 then (erratalaw02_TextTells.j0 k a0 a1 a2 l3 t266 true) else (erratalaw02_TextTells.j0 k a0 a1 a2 l3 t266 (decide ((l3.length : Int) > 30))))) = some r := H
  have A5 := Aside0.mk A50
  clear A50
  have HC6 := Aside0.mk H
  clear H
  go_enter Tryd.func12, Tryd.ntmps12
  go_upto_region 2 with (first | ((with_reducible refine gate_callee (f := 13) rfl ?_); refine goesL_ (some 19) rfl rfl Tryd.func13 (by kernel_rfl) rfl #[] rfl (by (try simp only [List.map_toArray, List.map_cons, List.map_nil]); first | done | rfl | (simp only [List.length_drop, List.length_take]; rfl)) ?_; (with_reducible refine (erratalaw02_small.calls k  t266 _ ?side1 A5.out).mono ?_); (case side1 => exact envB HE.out (by repeat (first | (with_reducible first | exact HB.out | apply below_alloc | apply pw_below_drewN | apply below_drew1) | exact HB.out))); rintro e w7 ⟨rfl, hb⟩; refine ⟨_, rfl, ?_⟩; have n0_ := Aside0.mk (below_step (by repeat (first | (with_reducible first | exact HB.out | apply below_alloc | apply pw_below_drewN | apply below_drew1) | exact HB.out)) hb); clear HB; have HB := n0_; clear n0_; (try clear hb); (try clear hb2); (try clear hk); (try clear hi)))
  (try simp only [Act.put, List.setIfInBounds_toArray, List.set_cons_zero, List.set_cons_succ])
  go_cut [32] (fun v32 wc => ∃ (kq : Nat) (x32_5 : Bool), v32 = .bool x32_5 ∧ Aside0 (erratalaw02_TextTells.j0 kq a0 a1 a2 l3 t266 x32_5 = some r) ∧ Aside0 (kq ≤ k) ∧ Aside0 (Below w.heap.size w wc))
  case first =>
    have H := HC6.out
    clear HC6
    by_cases c8 : (a1.size : Int) > 300
    · rw [if_pos c8] at H
      have c8b0 : decide (300 < (a1.size : Int)) = true := decide_eq_true c8
      have c8b1 : decide (300 < a1.size) = true := decide_eq_true (by omega)
      clear c8
      (first | rw [c8b0] | (simp only [i64_w, i32_w]; rw [c8b0]) | skip)
      have H' := Aside0.mk H
      clear H
      go_wp2
      go_meet
      case rel => exact ⟨_, (true), (by first | rfl | (simp; done) | (simp [*]; done)), H', ⟨by first | omega | exact Nat.le_refl _⟩, ⟨by repeat (first | (with_reducible first | exact HB.out | apply below_alloc | apply pw_below_drewN | apply below_drew1) | exact HB.out)⟩⟩
    · rw [if_neg c8] at H
      have c8b0 : decide (300 < (a1.size : Int)) = false := decide_eq_false c8
      have c8b1 : decide (300 < a1.size) = false := decide_eq_false (by omega)
      clear c8
      (first | rw [c8b0] | (simp only [i64_w, i32_w]; rw [c8b0]) | skip)
      by_cases c9 : (a2.size : Int) > 100
      · rw [if_pos c9] at H
        have c9b0 : decide (100 < (a2.size : Int)) = true := decide_eq_true c9
        have c9b1 : decide (100 < a2.size) = true := decide_eq_true (by omega)
        clear c9
        have H' := Aside0.mk H
        clear H
        go_wp2
        go_meet
        case rel => exact ⟨_, (true), (by first | rfl | (simp; done) | (simp [*]; done)), H', ⟨by first | omega | exact Nat.le_refl _⟩, ⟨by repeat (first | (with_reducible first | exact HB.out | apply below_alloc | apply pw_below_drewN | apply below_drew1) | exact HB.out)⟩⟩
      · rw [if_neg c9] at H
        have c9b0 : decide (100 < (a2.size : Int)) = false := decide_eq_false c9
        have c9b1 : decide (100 < a2.size) = false := decide_eq_false (by omega)
        clear c9
        have H' := Aside0.mk H
        clear H
        go_wp2
        go_meet
        case rel => exact ⟨_, (decide ((l3.length : Int) > 30)), (by first | rfl | (simp; done) | (simp [*]; done)), H', ⟨by first | omega | exact Nat.le_refl _⟩, ⟨by repeat (first | (with_reducible first | exact HB.out | apply below_alloc | apply pw_below_drewN | apply below_drew1) | exact HB.out)⟩⟩
  case rest =>
    clear HC6
    try clear c1
    try clear p2
    try clear c3
    try clear c8
    try clear c8b0
    try clear c8b1
    try clear c9
    try clear c9b0
    try clear c9b1
    obtain ⟨kq, x32_5, rfl, HA, HJ5, HB⟩ := hcut
    cases kq with
    | zero => exact absurd HA.out (by simp [erratalaw02_TextTells.j0])
    | succ kj5 =>
      have H := HA.out
      clear HA
      simp only [erratalaw02_TextTells.j0] at H
      by_cases c10 : x32_5 = true
      · subst c10
        have H1 : (some t266) = some r := by rw [if_pos rfl] at H; exact H
        clear H
        have H := H1
        clear H1
        obtain rfl := Option.some.inj H
        go_wp2
        go_ret
        exact ⟨by first | rfl | (simp [errW_none, errW_some] <;> rfl) | (simp [*, errW_none, errW_some] <;> rfl), by repeat (first | (with_reducible first | exact HB.out | apply below_alloc | apply pw_below_drewN | apply below_drew1) | exact HB.out)⟩
      · replace c10 := Bool.eq_false_iff.mpr c10
        subst c10
        have H1 : (erratalaw02_TextTells.l0 kj5 a0 a1 a2 l3 t266 0) = some r := by rw [if_neg (show ¬ (false = true) by decide)] at H; exact H
        clear H
        have H := H1
        clear H1
        have H' := Aside0.mk H
        clear H
        go_wp2
        go_loopg [10] kj5 (fun kq v10 w' => ∃ (x10_2 : Int), v10 = .int .i64 x10_2 ∧ Aside0 (erratalaw02_TextTells.l0 kq a0 a1 a2 l3 t266 x10_2 = some r) ∧ Aside0 (kq ≤ kj5) ∧ Aside0 (Below w.heap.size w w'))
        case atStart => exact ⟨(0), (by first | rfl | (simp; done) | (simp [*]; done)), H', ⟨Nat.le_refl _⟩, ⟨by repeat (first | (with_reducible first | exact HB.out | apply below_alloc | apply pw_below_drewN | apply below_drew1) | exact HB.out)⟩⟩
        case round =>
          clear H'
          try clear c1
          try clear p2
          try clear c3
          try clear c8
          try clear c8b0
          try clear c8b1
          try clear c9
          try clear c9b0
          try clear c9b1
          try clear c10
          try clear p2
          obtain ⟨x10_2, rfl, HA, HK2, HB⟩ := hrel
          cases gk with
          | zero => exact absurd HA.out (by simp [erratalaw02_TextTells.l0])
          | succ k2 =>
            have H := HA.out
            clear HA
            simp only [erratalaw02_TextTells.l0] at H
            by_cases c11 : x10_2 < (l3.length : Int)
            · rw [if_pos c11] at H
              have c11b0 : decide (x10_2 < (l3.length : Int)) = true := decide_eq_true c11
              clear c11
              by_cases c12 : 0 ≤ x10_2
              · rw [if_pos c12] at H
                have c12b0 : decide (0 ≤ x10_2) = true := decide_eq_true c12
                clear c12
                by_cases c13 : ((rdOf ByteArray.empty l3 x10_2).size : Int) > 100
                · rw [if_pos c13] at H
                  have c13b0 : decide (100 < ((rdOf ByteArray.empty l3 x10_2).size : Int)) = true := decide_eq_true c13
                  have c13b1 : decide (100 < (rdOf ByteArray.empty l3 x10_2).size) = true := decide_eq_true (by omega)
                  clear c13
                  obtain rfl := Option.some.inj H
                  have p267 : 0 ≤ (x10_2 : Int) := of_decide_eq_true (by first | (with_reducible assumption) | assumption)
                  have q267 : x10_2 < (l3.length : Int) := of_decide_eq_true (by first | (with_reducible assumption) | assumption)
                  obtain ⟨ad267, e267, hx267_0⟩ := Kd.at_string HR3.out x10_2 p267 q267
                  cases e267
                  replace hx267_0 := (HB.out.cell (World.block_lt_of_cell? w _ hx267_0)).trans hx267_0
                  replace p267 := eq_true p267
                  replace q267 := eq_true q267
                  go_wp2
                  go_ret
                  exact ⟨by first | rfl | (simp [errW_none, errW_some] <;> rfl) | (simp [*, errW_none, errW_some] <;> rfl), by repeat (first | (with_reducible first | exact HB.out | apply below_alloc | apply pw_below_drewN | apply below_drew1) | exact HB.out)⟩
                · rw [if_neg c13] at H
                  have c13b0 : decide (100 < ((rdOf ByteArray.empty l3 x10_2).size : Int)) = false := decide_eq_false c13
                  have c13b1 : decide (100 < (rdOf ByteArray.empty l3 x10_2).size) = false := decide_eq_false (by omega)
                  clear c13
                  have H' := Aside0.mk H
                  clear H
                  have p267 : 0 ≤ (x10_2 : Int) := of_decide_eq_true (by first | (with_reducible assumption) | assumption)
                  have q267 : x10_2 < (l3.length : Int) := of_decide_eq_true (by first | (with_reducible assumption) | assumption)
                  obtain ⟨ad267, e267, hx267_0⟩ := Kd.at_string HR3.out x10_2 p267 q267
                  cases e267
                  replace hx267_0 := (HB.out.cell (World.block_lt_of_cell? w _ hx267_0)).trans hx267_0
                  replace p267 := eq_true p267
                  replace q267 := eq_true q267
                  go_wp2
                  go_roundg k2
                  case measure => have := HJ5.out; have := HK2.out; omega
                  case rel => exact ⟨(wrap64 (x10_2 + 1)), (by first | rfl | (simp; done) | (simp [*]; done)), H', ⟨by have := HJ5.out; have := HK2.out; omega⟩, ⟨by repeat (first | (with_reducible first | exact HB.out | apply below_alloc | apply pw_below_drewN | apply below_drew1) | exact HB.out)⟩⟩
              · rw [if_neg c12] at H
                exact absurd H (by simp)
            · rw [if_neg c11] at H
              have c11b0 : decide (x10_2 < (l3.length : Int)) = false := decide_eq_false c11
              clear c11
              replace H := Option.bind_eq_some_iff.mp H
              obtain ⟨⟨t268, t269⟩, A140, H⟩ := H
              replace H : ((errataref02_Int.f k2 a1).bind fun bt270 => ((text_Unquote.f a1).bind fun bt272 => ((errataref02_Unquote.f k2 a1).bind fun bt274 => (if t268 = bt270.1 then (if (t269 != bt270.2) = true then (erratalaw02_TextTells.j2 k2 a1 a2 l3 t266 true) else (if bt272.1.toList = bt274.1.toList then (if (bt272.2 != bt274.2) = true then (erratalaw02_TextTells.j2 k2 a1 a2 l3 t266 true) else ((text_Decimal.f a0).bind fun t276 => ((errataref02_Decimal.f k2 a0).bind fun t277 => (if t276.toList = t277.toList then ((text_Quote.f a1).bind fun t278 => ((errataref02_Quote.f k2 a1).bind fun t279 => (erratalaw02_TextTells.j2 k2 a1 a2 l3 t266 (t278.toList != t279.toList)))) else (erratalaw02_TextTells.j2 k2 a1 a2 l3 t266 true))))) else (erratalaw02_TextTells.j2 k2 a1 a2 l3 t266 true))) else (erratalaw02_TextTells.j2 k2 a1 a2 l3 t266 true))))) = some r := H
              have A14 := Aside0.mk A140
              clear A140
              replace H := Option.bind_eq_some_iff.mp H
              obtain ⟨⟨t270, t271⟩, A150, H⟩ := H
              replace H : ((text_Unquote.f a1).bind fun bt272 => ((errataref02_Unquote.f k2 a1).bind fun bt274 => (if t268 = t270 then (if (t269 != t271) = true then (erratalaw02_TextTells.j2 k2 a1 a2 l3 t266 true) else (if bt272.1.toList = bt274.1.toList then (if (bt272.2 != bt274.2) = true then (erratalaw02_TextTells.j2 k2 a1 a2 l3 t266 true) else ((text_Decimal.f a0).bind fun t276 => ((errataref02_Decimal.f k2 a0).bind fun t277 => (if t276.toList = t277.toList then ((text_Quote.f a1).bind fun t278 => ((errataref02_Quote.f k2 a1).bind fun t279 => (erratalaw02_TextTells.j2 k2 a1 a2 l3 t266 (t278.toList != t279.toList)))) else (erratalaw02_TextTells.j2 k2 a1 a2 l3 t266 true))))) else (erratalaw02_TextTells.j2 k2 a1 a2 l3 t266 true))) else (erratalaw02_TextTells.j2 k2 a1 a2 l3 t266 true)))) = some r := H
              have A15 := Aside0.mk A150
              clear A150
              replace H := Option.bind_eq_some_iff.mp H
              obtain ⟨⟨t272, t273⟩, A160, H⟩ := H
              replace H : ((errataref02_Unquote.f k2 a1).bind fun bt274 => (if t268 = t270 then (if (t269 != t271) = true then (erratalaw02_TextTells.j2 k2 a1 a2 l3 t266 true) else (if t272.toList = bt274.1.toList then (if (t273 != bt274.2) = true then (erratalaw02_TextTells.j2 k2 a1 a2 l3 t266 true) else ((text_Decimal.f a0).bind fun t276 => ((errataref02_Decimal.f k2 a0).bind fun t277 => (if t276.toList = t277.toList then ((text_Quote.f a1).bind fun t278 => ((errataref02_Quote.f k2 a1).bind fun t279 => (erratalaw02_TextTells.j2 k2 a1 a2 l3 t266 (t278.toList != t279.toList)))) else (erratalaw02_TextTells.j2 k2 a1 a2 l3 t266 true))))) else (erratalaw02_TextTells.j2 k2 a1 a2 l3 t266 true))) else (erratalaw02_TextTells.j2 k2 a1 a2 l3 t266 true))) = some r := H
              have A16 := Aside0.mk A160
              clear A160
              replace H := Option.bind_eq_some_iff.mp H
              obtain ⟨⟨t274, t275⟩, A170, H⟩ := H
              replace H : (if t268 = t270 then (if (t269 != t271) = true then (erratalaw02_TextTells.j2 k2 a1 a2 l3 t266 true) else (if t272.toList = t274.toList then (if (t273 != t275) = true then (erratalaw02_TextTells.j2 k2 a1 a2 l3 t266 true) else ((text_Decimal.f a0).bind fun t276 => ((errataref02_Decimal.f k2 a0).bind fun t277 => (if t276.toList = t277.toList then ((text_Quote.f a1).bind fun t278 => ((errataref02_Quote.f k2 a1).bind fun t279 => (erratalaw02_TextTells.j2 k2 a1 a2 l3 t266 (t278.toList != t279.toList)))) else (erratalaw02_TextTells.j2 k2 a1 a2 l3 t266 true))))) else (erratalaw02_TextTells.j2 k2 a1 a2 l3 t266 true))) else (erratalaw02_TextTells.j2 k2 a1 a2 l3 t266 true)) = some r := H
              have A17 := Aside0.mk A170
              clear A170
              have HC18 := Aside0.mk H
              clear H
              go_upto_region 13 with (first | ((with_reducible refine gate_callee (f := 20) rfl ?_); refine goesL_ (some 49) rfl rfl Tryd.func20 (by kernel_rfl) rfl #[.string a1] rfl (by (try simp only [List.map_toArray, List.map_cons, List.map_nil]); first | done | rfl | (simp only [List.length_drop, List.length_take]; rfl)) ?_; (with_reducible refine (text_Int.calls a1 t268 t269 _ ?side1 A14.out).mono ?_); (case side1 => exact envB HE.out (by repeat (first | (with_reducible first | exact HB.out | apply below_alloc | apply pw_below_drewN | apply below_drew1) | exact HB.out))); rintro e w19 ⟨rfl, hb⟩; refine ⟨_, rfl, ?_⟩; have n0_ := Aside0.mk (below_step (by repeat (first | (with_reducible first | exact HB.out | apply below_alloc | apply pw_below_drewN | apply below_drew1) | exact HB.out)) hb); clear HB; have HB := n0_; clear n0_; (try clear hb); (try clear hb2); (try clear hk); (try clear hi)) | ((with_reducible refine gate_callee (f := 33) rfl ?_); refine goesL_ (some 54) rfl rfl Tryd.func33 (by kernel_rfl) rfl #[.string a1] rfl (by (try simp only [List.map_toArray, List.map_cons, List.map_nil]); first | done | rfl | (simp only [List.length_drop, List.length_take]; rfl)) ?_; (with_reducible refine (errataref02_Int.calls k2 a1 t270 t271 _ A15.out).mono ?_); rintro e w20 ⟨rfl, hb⟩; refine ⟨_, rfl, ?_⟩; have n0_ := Aside0.mk (below_step (by repeat (first | (with_reducible first | exact HB.out | apply below_alloc | apply pw_below_drewN | apply below_drew1) | exact HB.out)) hb); clear HB; have HB := n0_; clear n0_; (try clear hb); (try clear hb2); (try clear hk); (try clear hi)) | ((with_reducible refine gate_callee (f := 22) rfl ?_); refine goesL_ (some 59) rfl rfl Tryd.func22 (by kernel_rfl) rfl #[.string a1] rfl (by (try simp only [List.map_toArray, List.map_cons, List.map_nil]); first | done | rfl | (simp only [List.length_drop, List.length_take]; rfl)) ?_; (with_reducible refine (text_Unquote.calls a1 t272 t273 _ A16.out).mono ?_); rintro e w21 ⟨rfl, hb⟩; refine ⟨_, rfl, ?_⟩; have n0_ := Aside0.mk (below_step (by repeat (first | (with_reducible first | exact HB.out | apply below_alloc | apply pw_below_drewN | apply below_drew1) | exact HB.out)) hb); clear HB; have HB := n0_; clear n0_; (try clear hb); (try clear hb2); (try clear hk); (try clear hi)) | ((with_reducible refine gate_callee (f := 34) rfl ?_); refine goesL_ (some 64) rfl rfl Tryd.func34 (by kernel_rfl) rfl #[.string a1] rfl (by (try simp only [List.map_toArray, List.map_cons, List.map_nil]); first | done | rfl | (simp only [List.length_drop, List.length_take]; rfl)) ?_; (with_reducible refine (errataref02_Unquote.calls k2 a1 t274 t275 _ A17.out).mono ?_); rintro e w22 ⟨rfl, hb⟩; refine ⟨_, rfl, ?_⟩; have n0_ := Aside0.mk (below_step (by repeat (first | (with_reducible first | exact HB.out | apply below_alloc | apply pw_below_drewN | apply below_drew1) | exact HB.out)) hb); clear HB; have HB := n0_; clear n0_; (try clear hb); (try clear hb2); (try clear hk); (try clear hi)))
              (try simp only [Act.put, List.setIfInBounds_toArray, List.set_cons_zero, List.set_cons_succ])
              go_cut [98] (fun v98 wc => ∃ (kq : Nat) (x98_17 : Bool), v98 = .bool x98_17 ∧ Aside0 (erratalaw02_TextTells.j2 kq a1 a2 l3 t266 x98_17 = some r) ∧ Aside0 (kq ≤ k2) ∧ Aside0 (Below w.heap.size w wc))
              case first =>
                have H := HC18.out
                clear HC18
                by_cases c23 : t268 = t270
                · rw [if_pos c23] at H
                  have c23b0 : (t268 == t270) = true := beq_iff_eq.mpr c23
                  have c23b1 : (t268 != t270) = false := bne_eq_false_iff_eq.mpr c23
                  clear c23
                  (first | rw [c23b0] | (simp only [i64_w, i32_w]; rw [c23b0]) | skip)
                  by_cases c24 : (t269 != t271) = true
                  · rw [if_pos c24] at H
                    have c24b0 : (t269 != t271) = true := c24
                    (try (have c24b1 : decide (t269 = t271) = false := by simpa using c24))
                    (try (have c24b2 : (t269 == t271) = false := by simpa using c24))
                    (try (have c24b3 : ¬ (t269 = t271) := by simpa using c24))
                    clear c24
                    have H' := Aside0.mk H
                    clear H
                    go_wp2
                    go_meet
                    case rel => exact ⟨_, (true), (by first | rfl | (simp; done) | (simp [*]; done)), H', ⟨by have := HJ5.out; have := HK2.out; first | omega | exact Nat.le_refl _⟩, ⟨by repeat (first | (with_reducible first | exact HB.out | apply below_alloc | apply pw_below_drewN | apply below_drew1) | exact HB.out)⟩⟩
                  · rw [if_neg c24] at H
                    have c24b0 : (t269 != t271) = false := by simpa using c24
                    (try (have c24b1 : decide (t269 = t271) = true := by simpa using c24))
                    (try (have c24b2 : (t269 == t271) = true := by simpa using c24))
                    clear c24
                    by_cases c25 : t272.toList = t274.toList
                    · rw [if_pos c25] at H
                      have c25b0 : (t272.toList == t274.toList) = true := beq_iff_eq.mpr c25
                      have c25b1 : (t272.toList != t274.toList) = false := bne_eq_false_iff_eq.mpr c25
                      clear c25
                      by_cases c26 : (t273 != t275) = true
                      · rw [if_pos c26] at H
                        have c26b0 : (t273 != t275) = true := c26
                        (try (have c26b1 : decide (t273 = t275) = false := by simpa using c26))
                        (try (have c26b2 : (t273 == t275) = false := by simpa using c26))
                        (try (have c26b3 : ¬ (t273 = t275) := by simpa using c26))
                        clear c26
                        have H' := Aside0.mk H
                        clear H
                        go_wp2
                        go_meet
                        case rel => exact ⟨_, (true), (by first | rfl | (simp; done) | (simp [*]; done)), H', ⟨by have := HJ5.out; have := HK2.out; first | omega | exact Nat.le_refl _⟩, ⟨by repeat (first | (with_reducible first | exact HB.out | apply below_alloc | apply pw_below_drewN | apply below_drew1) | exact HB.out)⟩⟩
                      · rw [if_neg c26] at H
                        have c26b0 : (t273 != t275) = false := by simpa using c26
                        (try (have c26b1 : decide (t273 = t275) = true := by simpa using c26))
                        (try (have c26b2 : (t273 == t275) = true := by simpa using c26))
                        clear c26
                        replace H := Option.bind_eq_some_iff.mp H
                        obtain ⟨t276, A270, H⟩ := H
                        replace H : ((errataref02_Decimal.f k2 a0).bind fun t277 => (if t276.toList = t277.toList then ((text_Quote.f a1).bind fun t278 => ((errataref02_Quote.f k2 a1).bind fun t279 => (erratalaw02_TextTells.j2 k2 a1 a2 l3 t266 (t278.toList != t279.toList)))) else (erratalaw02_TextTells.j2 k2 a1 a2 l3 t266 true))) = some r := H
                        have A27 := Aside0.mk A270
                        clear A270
                        replace H := Option.bind_eq_some_iff.mp H
                        obtain ⟨t277, A280, H⟩ := H
                        replace H : (if t276.toList = t277.toList then ((text_Quote.f a1).bind fun t278 => ((errataref02_Quote.f k2 a1).bind fun t279 => (erratalaw02_TextTells.j2 k2 a1 a2 l3 t266 (t278.toList != t279.toList)))) else (erratalaw02_TextTells.j2 k2 a1 a2 l3 t266 true)) = some r := H
                        have A28 := Aside0.mk A280
                        clear A280
                        by_cases c29 : t276.toList = t277.toList
                        · rw [if_pos c29] at H
                          have c29b0 : (t276.toList == t277.toList) = true := beq_iff_eq.mpr c29
                          have c29b1 : (t276.toList != t277.toList) = false := bne_eq_false_iff_eq.mpr c29
                          clear c29
                          replace H := Option.bind_eq_some_iff.mp H
                          obtain ⟨t278, A300, H⟩ := H
                          replace H : ((errataref02_Quote.f k2 a1).bind fun t279 => (erratalaw02_TextTells.j2 k2 a1 a2 l3 t266 (t278.toList != t279.toList))) = some r := H
                          have A30 := Aside0.mk A300
                          clear A300
                          replace H := Option.bind_eq_some_iff.mp H
                          obtain ⟨t279, A310, H⟩ := H
                          replace H : (erratalaw02_TextTells.j2 k2 a1 a2 l3 t266 (t278.toList != t279.toList)) = some r := H
                          have A31 := Aside0.mk A310
                          clear A310
                          have H' := Aside0.mk H
                          clear H
                          go_wp2_with (first | (go_at_call 21; (with_reducible refine (text_Decimal.calls a0 t276 _ ?side1 A27.out).mono ?_); (case side1 => exact envB HE.out (by repeat (first | (with_reducible first | exact HB.out | apply below_alloc | apply pw_below_drewN | apply below_drew1) | exact HB.out))); rintro e w32 ⟨rfl, hb⟩; have n0_ := Aside0.mk (below_step (by repeat (first | (with_reducible first | exact HB.out | apply below_alloc | apply pw_below_drewN | apply below_drew1) | exact HB.out)) hb); clear HB; have HB := n0_; clear n0_; (try clear hb); (try clear hb2); (try clear hk); (try clear hi)) | (go_at_call 35; (with_reducible refine (errataref02_Decimal.calls k2 a0 t277 _ A28.out).mono ?_); rintro e w33 ⟨rfl, hb⟩; have n0_ := Aside0.mk (below_step (by repeat (first | (with_reducible first | exact HB.out | apply below_alloc | apply pw_below_drewN | apply below_drew1) | exact HB.out)) hb); clear HB; have HB := n0_; clear n0_; (try clear hb); (try clear hb2); (try clear hk); (try clear hi)) | (go_at_call 23; (with_reducible refine (text_Quote.calls a1 t278 _ A30.out).mono ?_); rintro e w34 ⟨rfl, hb⟩; have n0_ := Aside0.mk (below_step (by repeat (first | (with_reducible first | exact HB.out | apply below_alloc | apply pw_below_drewN | apply below_drew1) | exact HB.out)) hb); clear HB; have HB := n0_; clear n0_; (try clear hb); (try clear hb2); (try clear hk); (try clear hi)) | (go_at_call 36; (with_reducible refine (errataref02_Quote.calls k2 a1 t279 _ A31.out).mono ?_); rintro e w35 ⟨rfl, hb⟩; have n0_ := Aside0.mk (below_step (by repeat (first | (with_reducible first | exact HB.out | apply below_alloc | apply pw_below_drewN | apply below_drew1) | exact HB.out)) hb); clear HB; have HB := n0_; clear n0_; (try clear hb); (try clear hb2); (try clear hk); (try clear hi)))
                          go_meet
                          case rel => exact ⟨_, ((t278.toList != t279.toList)), (by first | rfl | (simp; done) | (simp [*]; done)), H', ⟨by have := HJ5.out; have := HK2.out; first | omega | exact Nat.le_refl _⟩, ⟨by repeat (first | (with_reducible first | exact HB.out | apply below_alloc | apply pw_below_drewN | apply below_drew1) | exact HB.out)⟩⟩
                        · rw [if_neg c29] at H
                          have c29b0 : (t276.toList == t277.toList) = false := beq_eq_false_iff_ne.mpr c29
                          have c29b1 : (t276.toList != t277.toList) = true := bne_iff_ne.mpr c29
                          have H' := Aside0.mk H
                          clear H
                          go_wp2_with (first | (go_at_call 21; (with_reducible refine (text_Decimal.calls a0 t276 _ ?side1 A27.out).mono ?_); (case side1 => exact envB HE.out (by repeat (first | (with_reducible first | exact HB.out | apply below_alloc | apply pw_below_drewN | apply below_drew1) | exact HB.out))); rintro e w36 ⟨rfl, hb⟩; have n0_ := Aside0.mk (below_step (by repeat (first | (with_reducible first | exact HB.out | apply below_alloc | apply pw_below_drewN | apply below_drew1) | exact HB.out)) hb); clear HB; have HB := n0_; clear n0_; (try clear hb); (try clear hb2); (try clear hk); (try clear hi)) | (go_at_call 35; (with_reducible refine (errataref02_Decimal.calls k2 a0 t277 _ A28.out).mono ?_); rintro e w37 ⟨rfl, hb⟩; have n0_ := Aside0.mk (below_step (by repeat (first | (with_reducible first | exact HB.out | apply below_alloc | apply pw_below_drewN | apply below_drew1) | exact HB.out)) hb); clear HB; have HB := n0_; clear n0_; (try clear hb); (try clear hb2); (try clear hk); (try clear hi)))
                          go_meet
                          case rel => exact ⟨_, (true), (by first | rfl | (simp; done) | (simp [*]; done)), H', ⟨by have := HJ5.out; have := HK2.out; first | omega | exact Nat.le_refl _⟩, ⟨by repeat (first | (with_reducible first | exact HB.out | apply below_alloc | apply pw_below_drewN | apply below_drew1) | exact HB.out)⟩⟩
                    · rw [if_neg c25] at H
                      have c25b0 : (t272.toList == t274.toList) = false := beq_eq_false_iff_ne.mpr c25
                      have c25b1 : (t272.toList != t274.toList) = true := bne_iff_ne.mpr c25
                      have H' := Aside0.mk H
                      clear H
                      go_wp2
                      go_meet
                      case rel => exact ⟨_, (true), (by first | rfl | (simp; done) | (simp [*]; done)), H', ⟨by have := HJ5.out; have := HK2.out; first | omega | exact Nat.le_refl _⟩, ⟨by repeat (first | (with_reducible first | exact HB.out | apply below_alloc | apply pw_below_drewN | apply below_drew1) | exact HB.out)⟩⟩
                · rw [if_neg c23] at H
                  have c23b0 : (t268 == t270) = false := beq_eq_false_iff_ne.mpr c23
                  have c23b1 : (t268 != t270) = true := bne_iff_ne.mpr c23
                  (first | rw [c23b0] | (simp only [i64_w, i32_w]; rw [c23b0]) | skip)
                  have H' := Aside0.mk H
                  clear H
                  go_wp2
                  go_meet
                  case rel => exact ⟨_, (true), (by first | rfl | (simp; done) | (simp [*]; done)), H', ⟨by have := HJ5.out; have := HK2.out; first | omega | exact Nat.le_refl _⟩, ⟨by repeat (first | (with_reducible first | exact HB.out | apply below_alloc | apply pw_below_drewN | apply below_drew1) | exact HB.out)⟩⟩
              case rest =>
                clear HC18
                try clear c1
                try clear c2
                try clear p2
                try clear q2
                try clear hx2
                try clear c3
                try clear p6
                try clear c8
                try clear c8b0
                try clear c8b1
                try clear c9
                try clear c9b0
                try clear c9b1
                try clear c10
                try clear c11
                try clear c11b0
                try clear c12
                try clear c12b0
                try clear c13
                try clear c13b0
                try clear c13b1
                try clear c20
                try clear c22
                try clear c23
                try clear c23b0
                try clear c23b1
                try clear c24
                try clear c24b0
                try clear c24b1
                try clear c24b2
                try clear c25
                try clear c25b0
                try clear c25b1
                try clear c26
                try clear c26b0
                try clear c26b1
                try clear c26b2
                try clear p26
                try clear q26
                try clear hx26
                try clear c29
                try clear c29b0
                try clear c29b1
                try clear c33
                try clear c34
                try clear hx267_0
                try clear p2
                try clear p267
                try clear q267
                obtain ⟨kq, x98_17, rfl, HA, HJ17, HB⟩ := hcut
                cases kq with
                | zero => exact absurd HA.out (by simp [erratalaw02_TextTells.j2])
                | succ kj17 =>
                  have H := HA.out
                  clear HA
                  simp only [erratalaw02_TextTells.j2] at H
                  by_cases c38 : x98_17 = true
                  · subst c38
                    have H1 : (some false) = some r := by rw [if_pos rfl] at H; exact H
                    clear H
                    have H := H1
                    clear H1
                    obtain rfl := Option.some.inj H
                    go_wp2
                    go_ret
                    exact ⟨by first | rfl | (simp [errW_none, errW_some] <;> rfl) | (simp [*, errW_none, errW_some] <;> rfl), by repeat (first | (with_reducible first | exact HB.out | apply below_alloc | apply pw_below_drewN | apply below_drew1) | exact HB.out)⟩
                  · replace c38 := Bool.eq_false_iff.mpr c38
                    subst c38
                    have H1 : ((text_Lines.f a1).bind fun t280 => ((errataref02_Lines.f kj17 a1).bind fun t283 => ((errataref02_Same.f kj17 t280 t283).bind fun t286 => (if t286 = true then ((text_Unlines.f l3).bind fun t287 => ((errataref02_Unlines.f kj17 l3).bind fun t288 => (if t287.toList = t288.toList then ((text_Fields.f a1).bind fun t289 => ((errataref02_Fields.f kj17 a1).bind fun t292 => ((errataref02_Same.f kj17 t289 t292).bind fun t295 => (erratalaw02_TextTells.j3 kj17 a1 a2 t266 (!t295))))) else (erratalaw02_TextTells.j3 kj17 a1 a2 t266 true)))) else (erratalaw02_TextTells.j3 kj17 a1 a2 t266 true))))) = some r := by rw [if_neg (show ¬ (false = true) by decide)] at H; exact H
                    clear H
                    have H := H1
                    clear H1
                    have HC39 := Aside0.mk H
                    clear H
                    go_upto_region 15 with (fail)
                    go_cut [119] (fun v119 wc => ∃ (kq : Nat) (x119_38 : Bool), v119 = .bool x119_38 ∧ Aside0 (erratalaw02_TextTells.j3 kq a1 a2 t266 x119_38 = some r) ∧ Aside0 (kq ≤ kj17) ∧ Aside0 (Below w.heap.size w wc))
                    case first =>
                      have H := HC39.out
                      clear HC39
                      replace H := Option.bind_eq_some_iff.mp H
                      obtain ⟨t280, A400, H⟩ := H
                      replace H : ((errataref02_Lines.f kj17 a1).bind fun t283 => ((errataref02_Same.f kj17 t280 t283).bind fun t286 => (if t286 = true then ((text_Unlines.f l3).bind fun t287 => ((errataref02_Unlines.f kj17 l3).bind fun t288 => (if t287.toList = t288.toList then ((text_Fields.f a1).bind fun t289 => ((errataref02_Fields.f kj17 a1).bind fun t292 => ((errataref02_Same.f kj17 t289 t292).bind fun t295 => (erratalaw02_TextTells.j3 kj17 a1 a2 t266 (!t295))))) else (erratalaw02_TextTells.j3 kj17 a1 a2 t266 true)))) else (erratalaw02_TextTells.j3 kj17 a1 a2 t266 true)))) = some r := H
                      have A40 := Aside0.mk A400
                      clear A400
                      replace H := Option.bind_eq_some_iff.mp H
                      obtain ⟨t283, A410, H⟩ := H
                      replace H : ((errataref02_Same.f kj17 t280 t283).bind fun t286 => (if t286 = true then ((text_Unlines.f l3).bind fun t287 => ((errataref02_Unlines.f kj17 l3).bind fun t288 => (if t287.toList = t288.toList then ((text_Fields.f a1).bind fun t289 => ((errataref02_Fields.f kj17 a1).bind fun t292 => ((errataref02_Same.f kj17 t289 t292).bind fun t295 => (erratalaw02_TextTells.j3 kj17 a1 a2 t266 (!t295))))) else (erratalaw02_TextTells.j3 kj17 a1 a2 t266 true)))) else (erratalaw02_TextTells.j3 kj17 a1 a2 t266 true))) = some r := H
                      have A41 := Aside0.mk A410
                      clear A410
                      replace H := Option.bind_eq_some_iff.mp H
                      obtain ⟨t286, A420, H⟩ := H
                      replace H : (if t286 = true then ((text_Unlines.f l3).bind fun t287 => ((errataref02_Unlines.f kj17 l3).bind fun t288 => (if t287.toList = t288.toList then ((text_Fields.f a1).bind fun t289 => ((errataref02_Fields.f kj17 a1).bind fun t292 => ((errataref02_Same.f kj17 t289 t292).bind fun t295 => (erratalaw02_TextTells.j3 kj17 a1 a2 t266 (!t295))))) else (erratalaw02_TextTells.j3 kj17 a1 a2 t266 true)))) else (erratalaw02_TextTells.j3 kj17 a1 a2 t266 true)) = some r := H
                      have A42 := Aside0.mk A420
                      clear A420
                      by_cases c43 : t286 = true
                      · subst c43
                        have H1 : ((text_Unlines.f l3).bind fun t287 => ((errataref02_Unlines.f kj17 l3).bind fun t288 => (if t287.toList = t288.toList then ((text_Fields.f a1).bind fun t289 => ((errataref02_Fields.f kj17 a1).bind fun t292 => ((errataref02_Same.f kj17 t289 t292).bind fun t295 => (erratalaw02_TextTells.j3 kj17 a1 a2 t266 (!t295))))) else (erratalaw02_TextTells.j3 kj17 a1 a2 t266 true)))) = some r := by rw [if_pos rfl] at H; exact H
                        clear H
                        have H := H1
                        clear H1
                        replace H := Option.bind_eq_some_iff.mp H
                        obtain ⟨t287, A440, H⟩ := H
                        replace H : ((errataref02_Unlines.f kj17 l3).bind fun t288 => (if t287.toList = t288.toList then ((text_Fields.f a1).bind fun t289 => ((errataref02_Fields.f kj17 a1).bind fun t292 => ((errataref02_Same.f kj17 t289 t292).bind fun t295 => (erratalaw02_TextTells.j3 kj17 a1 a2 t266 (!t295))))) else (erratalaw02_TextTells.j3 kj17 a1 a2 t266 true))) = some r := H
                        have A44 := Aside0.mk A440
                        clear A440
                        replace H := Option.bind_eq_some_iff.mp H
                        obtain ⟨t288, A450, H⟩ := H
                        replace H : (if t287.toList = t288.toList then ((text_Fields.f a1).bind fun t289 => ((errataref02_Fields.f kj17 a1).bind fun t292 => ((errataref02_Same.f kj17 t289 t292).bind fun t295 => (erratalaw02_TextTells.j3 kj17 a1 a2 t266 (!t295))))) else (erratalaw02_TextTells.j3 kj17 a1 a2 t266 true)) = some r := H
                        have A45 := Aside0.mk A450
                        clear A450
                        by_cases c46 : t287.toList = t288.toList
                        · rw [if_pos c46] at H
                          have c46b0 : (t287.toList == t288.toList) = true := beq_iff_eq.mpr c46
                          have c46b1 : (t287.toList != t288.toList) = false := bne_eq_false_iff_eq.mpr c46
                          clear c46
                          (first | rw [c46b0] | (simp only [i64_w, i32_w]; rw [c46b0]) | skip)
                          replace H := Option.bind_eq_some_iff.mp H
                          obtain ⟨t289, A470, H⟩ := H
                          replace H : ((errataref02_Fields.f kj17 a1).bind fun t292 => ((errataref02_Same.f kj17 t289 t292).bind fun t295 => (erratalaw02_TextTells.j3 kj17 a1 a2 t266 (!t295)))) = some r := H
                          have A47 := Aside0.mk A470
                          clear A470
                          replace H := Option.bind_eq_some_iff.mp H
                          obtain ⟨t292, A480, H⟩ := H
                          replace H : ((errataref02_Same.f kj17 t289 t292).bind fun t295 => (erratalaw02_TextTells.j3 kj17 a1 a2 t266 (!t295))) = some r := H
                          have A48 := Aside0.mk A480
                          clear A480
                          replace H := Option.bind_eq_some_iff.mp H
                          obtain ⟨t295, A490, H⟩ := H
                          replace H : (erratalaw02_TextTells.j3 kj17 a1 a2 t266 (!t295)) = some r := H
                          have A49 := Aside0.mk A490
                          clear A490
                          have H' := Aside0.mk H
                          clear H
                          go_wp2_with (first | ((with_reducible refine gate_callee (f := 15) rfl ?_); refine goesL_ (some 100) rfl rfl Tryd.func15 (by kernel_rfl) rfl #[.string a1] rfl (by (try simp only [List.map_toArray, List.map_cons, List.map_nil]); first | done | rfl | (simp only [List.length_drop, List.length_take]; rfl)) ?_; (with_reducible refine (text_Lines.calls a1 t280 _ ?side1 A40.out).mono ?_); (case side1 => exact envB HE.out (by repeat (first | (with_reducible first | exact HB.out | apply below_alloc | apply pw_below_drewN | apply below_drew1) | exact HB.out))); rintro e w50 ⟨v281, rfl, ho0, hb⟩; refine ⟨_, rfl, ?_⟩; have n0_ := Aside0.mk (Kd.R_lower ho0 (below_size (by repeat (first | (with_reducible first | exact HB.out | apply below_alloc | apply pw_below_drewN | apply below_drew1) | exact HB.out)))); have n1_ := Aside0.mk (below_step (by repeat (first | (with_reducible first | exact HB.out | apply below_alloc | apply pw_below_drewN | apply below_drew1) | exact HB.out)) hb); clear HB; have HO282 := n0_; have HB := n1_; clear n0_ n1_; (try clear hb); (try clear hb2); (try clear hk); (try clear hi); (try clear ho0)) | ((with_reducible refine gate_callee (f := 37) rfl ?_); refine goesL_ (some 102) rfl rfl Tryd.func37 (by kernel_rfl) rfl #[.string a1] rfl (by (try simp only [List.map_toArray, List.map_cons, List.map_nil]); first | done | rfl | (simp only [List.length_drop, List.length_take]; rfl)) ?_; (with_reducible refine (errataref02_Lines.calls kj17 a1 t283 _ A41.out).mono ?_); rintro e w51 ⟨v284, rfl, ho0, hb⟩; refine ⟨_, rfl, ?_⟩; have n0_ := Aside0.mk (Kd.R_elder' (by (with_reducible repeat (first | apply Kd.R_alloc | apply Kd.R_drewN | apply Kd.R_drew)); exact HO282.out) (Kd.R_base ho0) hb); have n1_ := Aside0.mk (Kd.R_lower (Kd.R_new' ho0 (Kd.R_lt (by (with_reducible repeat (first | apply Kd.R_alloc | apply Kd.R_drewN | apply Kd.R_drew)); exact HO282.out))) (below_size (by repeat (first | (with_reducible first | exact HB.out | apply below_alloc | apply pw_below_drewN | apply below_drew1) | exact HB.out)))); have n2_ := Aside0.mk (below_step (by repeat (first | (with_reducible first | exact HB.out | apply below_alloc | apply pw_below_drewN | apply below_drew1) | exact HB.out)) hb); clear HO282; clear HB; have HO282 := n0_; have HO285 := n1_; have HB := n2_; clear n0_ n1_ n2_; (try clear hb); (try clear hb2); (try clear hk); (try clear hi); (try clear ho0); obtain ⟨Ao52, co52, eo52⟩ := Kd.R_slice HO282.out; subst eo52; obtain ⟨Ao53, co53, eo53⟩ := Kd.R_slice HO285.out; subst eo53) | ((with_reducible refine gate_callee (f := 14) rfl ?_); refine goesL_ (some 103) rfl rfl Tryd.func14 (by kernel_rfl) rfl #[.slice Ao52 t280.length co52, .slice Ao53 t283.length co53] rfl (by (try simp only [List.map_toArray, List.map_cons, List.map_nil]); first | done | rfl | (simp only [List.length_drop, List.length_take]; rfl)) ?_; (with_reducible refine (errataref02_Same.calls kj17 _ _ t280 _ _ t283 true _ ?side1 ?side2 ?side3 ?side4 A42.out).mono ?_); (case side1 => repeat (first | exact (Kd.R_reads' HO282.out).2.2 | (with_reducible refine Kd.C_alloc ?_ _) | (with_reducible refine Kd.C_drewN ?_ _) | (with_reducible refine Kd.C_drew ?_))); (case side2 => exact (Kd.R_reads' HO282.out).2.1); (case side3 => repeat (first | exact (Kd.R_reads' HO285.out).2.2 | (with_reducible refine Kd.C_alloc ?_ _) | (with_reducible refine Kd.C_drewN ?_ _) | (with_reducible refine Kd.C_drew ?_))); (case side4 => exact (Kd.R_reads' HO285.out).2.1); rintro e w' ⟨rfl, ⟨nd, rfl⟩⟩; refine ⟨_, rfl, ?_⟩) | (go_at_call 16; (with_reducible refine (text_Unlines.calls _ _ l3 t287 _ ?side1 ?side2 A44.out).mono ?_); (case side1 => repeat (first | exact (Kd.C_below HR3.out (by repeat (first | (with_reducible first | exact HB.out | apply below_alloc | apply pw_below_drewN | apply below_drew1) | exact HB.out))) | (with_reducible refine Kd.C_alloc ?_ _) | (with_reducible refine Kd.C_drewN ?_ _) | (with_reducible refine Kd.C_drew ?_))); (case side2 => exact HC3.out); rintro e w54 ⟨rfl, hb⟩; have n0_ := Aside0.mk (Kd.R_below (by (with_reducible repeat (first | apply Kd.R_alloc | apply Kd.R_drewN | apply Kd.R_drew)); exact HO282.out) hb); have n1_ := Aside0.mk (Kd.R_below (by (with_reducible repeat (first | apply Kd.R_alloc | apply Kd.R_drewN | apply Kd.R_drew)); exact HO285.out) hb); have n2_ := Aside0.mk (below_step (by repeat (first | (with_reducible first | exact HB.out | apply below_alloc | apply pw_below_drewN | apply below_drew1) | exact HB.out)) hb); clear HO282; clear HO285; clear HB; have HO282 := n0_; have HO285 := n1_; have HB := n2_; clear n0_ n1_ n2_; (try clear hb); (try clear hb2); (try clear hk); (try clear hi)) | (go_at_call 38; (with_reducible refine (errataref02_Unlines.calls kj17 _ _ l3 t288 _ ?side1 ?side2 A45.out).mono ?_); (case side1 => repeat (first | exact (Kd.C_below HR3.out HB.out) | (with_reducible refine Kd.C_alloc ?_ _) | (with_reducible refine Kd.C_drewN ?_ _) | (with_reducible refine Kd.C_drew ?_))); (case side2 => exact HC3.out); rintro e w55 ⟨rfl, hb⟩; have n0_ := Aside0.mk (Kd.R_below (by (with_reducible repeat (first | apply Kd.R_alloc | apply Kd.R_drewN | apply Kd.R_drew)); exact HO282.out) hb); have n1_ := Aside0.mk (Kd.R_below (by (with_reducible repeat (first | apply Kd.R_alloc | apply Kd.R_drewN | apply Kd.R_drew)); exact HO285.out) hb); have n2_ := Aside0.mk (below_step (by repeat (first | (with_reducible first | exact HB.out | apply below_alloc | apply pw_below_drewN | apply below_drew1) | exact HB.out)) hb); clear HO282; clear HO285; clear HB; have HO282 := n0_; have HO285 := n1_; have HB := n2_; clear n0_ n1_ n2_; (try clear hb); (try clear hb2); (try clear hk); (try clear hi)) | (go_at_call 17; (with_reducible refine (text_Fields.calls a1 t289 _ A47.out).mono ?_); rintro e w56 ⟨v290, rfl, ho0, hb⟩; have n0_ := Aside0.mk (Kd.R_elder' (by (with_reducible repeat (first | apply Kd.R_alloc | apply Kd.R_drewN | apply Kd.R_drew)); exact HO282.out) (Kd.R_base ho0) hb); have n1_ := Aside0.mk (Kd.R_elder' (by (with_reducible repeat (first | apply Kd.R_alloc | apply Kd.R_drewN | apply Kd.R_drew)); exact HO285.out) (Kd.R_base ho0) hb); have n2_ := Aside0.mk (Kd.R_lower (Kd.R_new' (Kd.R_new' ho0 (Kd.R_lt (by (with_reducible repeat (first | apply Kd.R_alloc | apply Kd.R_drewN | apply Kd.R_drew)); exact HO282.out))) (Kd.R_lt (by (with_reducible repeat (first | apply Kd.R_alloc | apply Kd.R_drewN | apply Kd.R_drew)); exact HO285.out))) (below_size (by repeat (first | (with_reducible first | exact HB.out | apply below_alloc | apply pw_below_drewN | apply below_drew1) | exact HB.out)))); have n3_ := Aside0.mk (below_step (by repeat (first | (with_reducible first | exact HB.out | apply below_alloc | apply pw_below_drewN | apply below_drew1) | exact HB.out)) hb); clear HO282; clear HO285; clear HB; have HO282 := n0_; have HO285 := n1_; have HO291 := n2_; have HB := n3_; clear n0_ n1_ n2_ n3_; (try clear hb); (try clear hb2); (try clear hk); (try clear hi); (try clear ho0)) | (go_at_call 39; (with_reducible refine (errataref02_Fields.calls kj17 a1 t292 _ A48.out).mono ?_); rintro e w57 ⟨v293, rfl, ho0, hb⟩; have n0_ := Aside0.mk (Kd.R_elder' (by (with_reducible repeat (first | apply Kd.R_alloc | apply Kd.R_drewN | apply Kd.R_drew)); exact HO282.out) (Kd.R_base ho0) hb); have n1_ := Aside0.mk (Kd.R_elder' (by (with_reducible repeat (first | apply Kd.R_alloc | apply Kd.R_drewN | apply Kd.R_drew)); exact HO285.out) (Kd.R_base ho0) hb); have n2_ := Aside0.mk (Kd.R_elder' (by (with_reducible repeat (first | apply Kd.R_alloc | apply Kd.R_drewN | apply Kd.R_drew)); exact HO291.out) (Kd.R_base ho0) hb); have n3_ := Aside0.mk (Kd.R_lower (Kd.R_new' (Kd.R_new' (Kd.R_new' ho0 (Kd.R_lt (by (with_reducible repeat (first | apply Kd.R_alloc | apply Kd.R_drewN | apply Kd.R_drew)); exact HO282.out))) (Kd.R_lt (by (with_reducible repeat (first | apply Kd.R_alloc | apply Kd.R_drewN | apply Kd.R_drew)); exact HO285.out))) (Kd.R_lt (by (with_reducible repeat (first | apply Kd.R_alloc | apply Kd.R_drewN | apply Kd.R_drew)); exact HO291.out))) (below_size (by repeat (first | (with_reducible first | exact HB.out | apply below_alloc | apply pw_below_drewN | apply below_drew1) | exact HB.out)))); have n4_ := Aside0.mk (below_step (by repeat (first | (with_reducible first | exact HB.out | apply below_alloc | apply pw_below_drewN | apply below_drew1) | exact HB.out)) hb); clear HO282; clear HO285; clear HO291; clear HB; have HO282 := n0_; have HO285 := n1_; have HO291 := n2_; have HO294 := n3_; have HB := n4_; clear n0_ n1_ n2_ n3_ n4_; (try clear hb); (try clear hb2); (try clear hk); (try clear hi); (try clear ho0); obtain ⟨Ao58, co58, eo58⟩ := Kd.R_slice HO291.out; subst eo58; obtain ⟨Ao59, co59, eo59⟩ := Kd.R_slice HO294.out; subst eo59) | (go_at_call 14; (with_reducible refine (errataref02_Same.calls kj17 _ _ t289 _ _ t292 t295 _ ?side1 ?side2 ?side3 ?side4 A49.out).mono ?_); (case side1 => repeat (first | exact (Kd.R_reads' HO291.out).2.2 | (with_reducible refine Kd.C_alloc ?_ _) | (with_reducible refine Kd.C_drewN ?_ _) | (with_reducible refine Kd.C_drew ?_))); (case side2 => exact (Kd.R_reads' HO291.out).2.1); (case side3 => repeat (first | exact (Kd.R_reads' HO294.out).2.2 | (with_reducible refine Kd.C_alloc ?_ _) | (with_reducible refine Kd.C_drewN ?_ _) | (with_reducible refine Kd.C_drew ?_))); (case side4 => exact (Kd.R_reads' HO294.out).2.1); rintro e w' ⟨rfl, ⟨nd, rfl⟩⟩))
                          go_meet
                          case rel => exact ⟨_, (!t295), (by first | rfl | (simp; done) | (simp [*]; done)), H', ⟨by have := HJ5.out; have := HK2.out; have := HJ17.out; first | omega | exact Nat.le_refl _⟩, ⟨by repeat (first | (with_reducible first | exact HB.out | apply below_alloc | apply pw_below_drewN | apply below_drew1) | exact HB.out)⟩⟩
                        · rw [if_neg c46] at H
                          have c46b0 : (t287.toList == t288.toList) = false := beq_eq_false_iff_ne.mpr c46
                          have c46b1 : (t287.toList != t288.toList) = true := bne_iff_ne.mpr c46
                          (first | rw [c46b0] | (simp only [i64_w, i32_w]; rw [c46b0]) | skip)
                          have H' := Aside0.mk H
                          clear H
                          go_wp2_with (first | ((with_reducible refine gate_callee (f := 15) rfl ?_); refine goesL_ (some 100) rfl rfl Tryd.func15 (by kernel_rfl) rfl #[.string a1] rfl (by (try simp only [List.map_toArray, List.map_cons, List.map_nil]); first | done | rfl | (simp only [List.length_drop, List.length_take]; rfl)) ?_; (with_reducible refine (text_Lines.calls a1 t280 _ ?side1 A40.out).mono ?_); (case side1 => exact envB HE.out (by repeat (first | (with_reducible first | exact HB.out | apply below_alloc | apply pw_below_drewN | apply below_drew1) | exact HB.out))); rintro e w60 ⟨v281, rfl, ho0, hb⟩; refine ⟨_, rfl, ?_⟩; have n0_ := Aside0.mk (Kd.R_lower ho0 (below_size (by repeat (first | (with_reducible first | exact HB.out | apply below_alloc | apply pw_below_drewN | apply below_drew1) | exact HB.out)))); have n1_ := Aside0.mk (below_step (by repeat (first | (with_reducible first | exact HB.out | apply below_alloc | apply pw_below_drewN | apply below_drew1) | exact HB.out)) hb); clear HB; have HO282 := n0_; have HB := n1_; clear n0_ n1_; (try clear hb); (try clear hb2); (try clear hk); (try clear hi); (try clear ho0)) | ((with_reducible refine gate_callee (f := 37) rfl ?_); refine goesL_ (some 102) rfl rfl Tryd.func37 (by kernel_rfl) rfl #[.string a1] rfl (by (try simp only [List.map_toArray, List.map_cons, List.map_nil]); first | done | rfl | (simp only [List.length_drop, List.length_take]; rfl)) ?_; (with_reducible refine (errataref02_Lines.calls kj17 a1 t283 _ A41.out).mono ?_); rintro e w61 ⟨v284, rfl, ho0, hb⟩; refine ⟨_, rfl, ?_⟩; have n0_ := Aside0.mk (Kd.R_elder' (by (with_reducible repeat (first | apply Kd.R_alloc | apply Kd.R_drewN | apply Kd.R_drew)); exact HO282.out) (Kd.R_base ho0) hb); have n1_ := Aside0.mk (Kd.R_lower (Kd.R_new' ho0 (Kd.R_lt (by (with_reducible repeat (first | apply Kd.R_alloc | apply Kd.R_drewN | apply Kd.R_drew)); exact HO282.out))) (below_size (by repeat (first | (with_reducible first | exact HB.out | apply below_alloc | apply pw_below_drewN | apply below_drew1) | exact HB.out)))); have n2_ := Aside0.mk (below_step (by repeat (first | (with_reducible first | exact HB.out | apply below_alloc | apply pw_below_drewN | apply below_drew1) | exact HB.out)) hb); clear HO282; clear HB; have HO282 := n0_; have HO285 := n1_; have HB := n2_; clear n0_ n1_ n2_; (try clear hb); (try clear hb2); (try clear hk); (try clear hi); (try clear ho0); obtain ⟨Ao62, co62, eo62⟩ := Kd.R_slice HO282.out; subst eo62; obtain ⟨Ao63, co63, eo63⟩ := Kd.R_slice HO285.out; subst eo63) | ((with_reducible refine gate_callee (f := 14) rfl ?_); refine goesL_ (some 103) rfl rfl Tryd.func14 (by kernel_rfl) rfl #[.slice Ao62 t280.length co62, .slice Ao63 t283.length co63] rfl (by (try simp only [List.map_toArray, List.map_cons, List.map_nil]); first | done | rfl | (simp only [List.length_drop, List.length_take]; rfl)) ?_; (with_reducible refine (errataref02_Same.calls kj17 _ _ t280 _ _ t283 true _ ?side1 ?side2 ?side3 ?side4 A42.out).mono ?_); (case side1 => repeat (first | exact (Kd.R_reads' HO282.out).2.2 | (with_reducible refine Kd.C_alloc ?_ _) | (with_reducible refine Kd.C_drewN ?_ _) | (with_reducible refine Kd.C_drew ?_))); (case side2 => exact (Kd.R_reads' HO282.out).2.1); (case side3 => repeat (first | exact (Kd.R_reads' HO285.out).2.2 | (with_reducible refine Kd.C_alloc ?_ _) | (with_reducible refine Kd.C_drewN ?_ _) | (with_reducible refine Kd.C_drew ?_))); (case side4 => exact (Kd.R_reads' HO285.out).2.1); rintro e w' ⟨rfl, ⟨nd, rfl⟩⟩; refine ⟨_, rfl, ?_⟩) | (go_at_call 16; (with_reducible refine (text_Unlines.calls _ _ l3 t287 _ ?side1 ?side2 A44.out).mono ?_); (case side1 => repeat (first | exact (Kd.C_below HR3.out (by repeat (first | (with_reducible first | exact HB.out | apply below_alloc | apply pw_below_drewN | apply below_drew1) | exact HB.out))) | (with_reducible refine Kd.C_alloc ?_ _) | (with_reducible refine Kd.C_drewN ?_ _) | (with_reducible refine Kd.C_drew ?_))); (case side2 => exact HC3.out); rintro e w64 ⟨rfl, hb⟩; have n0_ := Aside0.mk (Kd.R_below (by (with_reducible repeat (first | apply Kd.R_alloc | apply Kd.R_drewN | apply Kd.R_drew)); exact HO282.out) hb); have n1_ := Aside0.mk (Kd.R_below (by (with_reducible repeat (first | apply Kd.R_alloc | apply Kd.R_drewN | apply Kd.R_drew)); exact HO285.out) hb); have n2_ := Aside0.mk (below_step (by repeat (first | (with_reducible first | exact HB.out | apply below_alloc | apply pw_below_drewN | apply below_drew1) | exact HB.out)) hb); clear HO282; clear HO285; clear HB; have HO282 := n0_; have HO285 := n1_; have HB := n2_; clear n0_ n1_ n2_; (try clear hb); (try clear hb2); (try clear hk); (try clear hi)) | (go_at_call 38; (with_reducible refine (errataref02_Unlines.calls kj17 _ _ l3 t288 _ ?side1 ?side2 A45.out).mono ?_); (case side1 => repeat (first | exact (Kd.C_below HR3.out HB.out) | (with_reducible refine Kd.C_alloc ?_ _) | (with_reducible refine Kd.C_drewN ?_ _) | (with_reducible refine Kd.C_drew ?_))); (case side2 => exact HC3.out); rintro e w65 ⟨rfl, hb⟩; have n0_ := Aside0.mk (Kd.R_below (by (with_reducible repeat (first | apply Kd.R_alloc | apply Kd.R_drewN | apply Kd.R_drew)); exact HO282.out) hb); have n1_ := Aside0.mk (Kd.R_below (by (with_reducible repeat (first | apply Kd.R_alloc | apply Kd.R_drewN | apply Kd.R_drew)); exact HO285.out) hb); have n2_ := Aside0.mk (below_step (by repeat (first | (with_reducible first | exact HB.out | apply below_alloc | apply pw_below_drewN | apply below_drew1) | exact HB.out)) hb); clear HO282; clear HO285; clear HB; have HO282 := n0_; have HO285 := n1_; have HB := n2_; clear n0_ n1_ n2_; (try clear hb); (try clear hb2); (try clear hk); (try clear hi)))
                          go_meet
                          case rel => exact ⟨_, (true), (by first | rfl | (simp; done) | (simp [*]; done)), H', ⟨by have := HJ5.out; have := HK2.out; have := HJ17.out; first | omega | exact Nat.le_refl _⟩, ⟨by repeat (first | (with_reducible first | exact HB.out | apply below_alloc | apply pw_below_drewN | apply below_drew1) | exact HB.out)⟩⟩
                      · replace c43 := Bool.eq_false_iff.mpr c43
                        subst c43
                        have H1 : (erratalaw02_TextTells.j3 kj17 a1 a2 t266 true) = some r := by rw [if_neg (show ¬ (false = true) by decide)] at H; exact H
                        clear H
                        have H := H1
                        clear H1
                        have H' := Aside0.mk H
                        clear H
                        go_wp2_with (first | ((with_reducible refine gate_callee (f := 15) rfl ?_); refine goesL_ (some 100) rfl rfl Tryd.func15 (by kernel_rfl) rfl #[.string a1] rfl (by (try simp only [List.map_toArray, List.map_cons, List.map_nil]); first | done | rfl | (simp only [List.length_drop, List.length_take]; rfl)) ?_; (with_reducible refine (text_Lines.calls a1 t280 _ ?side1 A40.out).mono ?_); (case side1 => exact envB HE.out (by repeat (first | (with_reducible first | exact HB.out | apply below_alloc | apply pw_below_drewN | apply below_drew1) | exact HB.out))); rintro e w66 ⟨v281, rfl, ho0, hb⟩; refine ⟨_, rfl, ?_⟩; have n0_ := Aside0.mk (Kd.R_lower ho0 (below_size (by repeat (first | (with_reducible first | exact HB.out | apply below_alloc | apply pw_below_drewN | apply below_drew1) | exact HB.out)))); have n1_ := Aside0.mk (below_step (by repeat (first | (with_reducible first | exact HB.out | apply below_alloc | apply pw_below_drewN | apply below_drew1) | exact HB.out)) hb); clear HB; have HO282 := n0_; have HB := n1_; clear n0_ n1_; (try clear hb); (try clear hb2); (try clear hk); (try clear hi); (try clear ho0)) | ((with_reducible refine gate_callee (f := 37) rfl ?_); refine goesL_ (some 102) rfl rfl Tryd.func37 (by kernel_rfl) rfl #[.string a1] rfl (by (try simp only [List.map_toArray, List.map_cons, List.map_nil]); first | done | rfl | (simp only [List.length_drop, List.length_take]; rfl)) ?_; (with_reducible refine (errataref02_Lines.calls kj17 a1 t283 _ A41.out).mono ?_); rintro e w67 ⟨v284, rfl, ho0, hb⟩; refine ⟨_, rfl, ?_⟩; have n0_ := Aside0.mk (Kd.R_elder' (by (with_reducible repeat (first | apply Kd.R_alloc | apply Kd.R_drewN | apply Kd.R_drew)); exact HO282.out) (Kd.R_base ho0) hb); have n1_ := Aside0.mk (Kd.R_lower (Kd.R_new' ho0 (Kd.R_lt (by (with_reducible repeat (first | apply Kd.R_alloc | apply Kd.R_drewN | apply Kd.R_drew)); exact HO282.out))) (below_size (by repeat (first | (with_reducible first | exact HB.out | apply below_alloc | apply pw_below_drewN | apply below_drew1) | exact HB.out)))); have n2_ := Aside0.mk (below_step (by repeat (first | (with_reducible first | exact HB.out | apply below_alloc | apply pw_below_drewN | apply below_drew1) | exact HB.out)) hb); clear HO282; clear HB; have HO282 := n0_; have HO285 := n1_; have HB := n2_; clear n0_ n1_ n2_; (try clear hb); (try clear hb2); (try clear hk); (try clear hi); (try clear ho0); obtain ⟨Ao68, co68, eo68⟩ := Kd.R_slice HO282.out; subst eo68; obtain ⟨Ao69, co69, eo69⟩ := Kd.R_slice HO285.out; subst eo69) | ((with_reducible refine gate_callee (f := 14) rfl ?_); refine goesL_ (some 103) rfl rfl Tryd.func14 (by kernel_rfl) rfl #[.slice Ao68 t280.length co68, .slice Ao69 t283.length co69] rfl (by (try simp only [List.map_toArray, List.map_cons, List.map_nil]); first | done | rfl | (simp only [List.length_drop, List.length_take]; rfl)) ?_; (with_reducible refine (errataref02_Same.calls kj17 _ _ t280 _ _ t283 false _ ?side1 ?side2 ?side3 ?side4 A42.out).mono ?_); (case side1 => repeat (first | exact (Kd.R_reads' HO282.out).2.2 | (with_reducible refine Kd.C_alloc ?_ _) | (with_reducible refine Kd.C_drewN ?_ _) | (with_reducible refine Kd.C_drew ?_))); (case side2 => exact (Kd.R_reads' HO282.out).2.1); (case side3 => repeat (first | exact (Kd.R_reads' HO285.out).2.2 | (with_reducible refine Kd.C_alloc ?_ _) | (with_reducible refine Kd.C_drewN ?_ _) | (with_reducible refine Kd.C_drew ?_))); (case side4 => exact (Kd.R_reads' HO285.out).2.1); rintro e w' ⟨rfl, ⟨nd, rfl⟩⟩; refine ⟨_, rfl, ?_⟩))
                        go_meet
                        case rel => exact ⟨_, (true), (by first | rfl | (simp; done) | (simp [*]; done)), H', ⟨by have := HJ5.out; have := HK2.out; have := HJ17.out; first | omega | exact Nat.le_refl _⟩, ⟨by repeat (first | (with_reducible first | exact HB.out | apply below_alloc | apply pw_below_drewN | apply below_drew1) | exact HB.out)⟩⟩
                    case rest =>
                      clear HC39
                      try clear c1
                      try clear c2
                      try clear p2
                      try clear q2
                      try clear hx2
                      try clear c3
                      try clear c4
                      try clear p6
                      try clear c8
                      try clear c8b0
                      try clear c8b1
                      try clear c9
                      try clear c9b0
                      try clear c9b1
                      try clear c10
                      try clear c11
                      try clear c11b0
                      try clear c12
                      try clear c12b0
                      try clear c13
                      try clear c13b0
                      try clear c13b1
                      try clear c14
                      try clear c15
                      try clear c20
                      try clear c22
                      try clear c23
                      try clear c23b0
                      try clear c23b1
                      try clear c24
                      try clear c24b0
                      try clear c24b1
                      try clear c24b2
                      try clear c25
                      try clear c25b0
                      try clear c25b1
                      try clear c26
                      try clear c26b0
                      try clear c26b1
                      try clear c26b2
                      try clear p26
                      try clear q26
                      try clear hx26
                      try clear c29
                      try clear c29b0
                      try clear c29b1
                      try clear c33
                      try clear c34
                      try clear c37
                      try clear c38
                      try clear c43
                      try clear c46
                      try clear c46b0
                      try clear c46b1
                      try clear p64
                      try clear hx267_0
                      try clear p2
                      try clear p26
                      try clear p267
                      try clear p6
                      try clear q2
                      try clear q26
                      try clear q267
                      obtain ⟨kq, x119_38, rfl, HA, HJ38, HB⟩ := hcut
                      cases kq with
                      | zero => exact absurd HA.out (by simp [erratalaw02_TextTells.j3])
                      | succ kj38 =>
                        have H := HA.out
                        clear HA
                        simp only [erratalaw02_TextTells.j3] at H
                        by_cases c70 : x119_38 = true
                        · subst c70
                          have H1 : (some false) = some r := by rw [if_pos rfl] at H; exact H
                          clear H
                          have H := H1
                          clear H1
                          obtain rfl := Option.some.inj H
                          go_wp2
                          go_ret
                          exact ⟨by first | rfl | (simp [errW_none, errW_some] <;> rfl) | (simp [*, errW_none, errW_some] <;> rfl), by repeat (first | (with_reducible first | exact HB.out | apply below_alloc | apply pw_below_drewN | apply below_drew1) | exact HB.out)⟩
                        · replace c70 := Bool.eq_false_iff.mpr c70
                          subst c70
                          have H1 : (if t266 = true then ((text_Pattern.f a2 a1).bind fun t296 => ((errataref02_Pattern.f kj38 a2 a1).bind fun t297 => (if (t296 == t297) = true then ((text_Magic.f kj38 a2).bind fun t298 => ((errataref02_Magic.f kj38 a2).bind fun t299 => (if (t298 == t299) = true then ((text_Plain.f a2).bind fun t300 => ((errataref02_Plain.f kj38 a2).bind fun t301 => (if t300.toList = t301.toList then ((text_Escape.f a1).bind fun t302 => ((errataref02_Escape.f kj38 a1).bind fun t303 => (some (t302.toList == t303.toList)))) else (some false)))) else (some false)))) else (some false)))) else (some false)) = some r := by rw [if_neg (show ¬ (false = true) by decide)] at H; exact H
                          clear H
                          have H := H1
                          clear H1
                          by_cases c71 : t266 = true
                          · subst c71
                            have H1 : ((text_Pattern.f a2 a1).bind fun t296 => ((errataref02_Pattern.f kj38 a2 a1).bind fun t297 => (if (t296 == t297) = true then ((text_Magic.f kj38 a2).bind fun t298 => ((errataref02_Magic.f kj38 a2).bind fun t299 => (if (t298 == t299) = true then ((text_Plain.f a2).bind fun t300 => ((errataref02_Plain.f kj38 a2).bind fun t301 => (if t300.toList = t301.toList then ((text_Escape.f a1).bind fun t302 => ((errataref02_Escape.f kj38 a1).bind fun t303 => (some (t302.toList == t303.toList)))) else (some false)))) else (some false)))) else (some false)))) = some r := by rw [if_pos rfl] at H; exact H
                            clear H
                            have H := H1
                            clear H1
                            replace H := Option.bind_eq_some_iff.mp H
                            obtain ⟨t296, A720, H⟩ := H
                            replace H : ((errataref02_Pattern.f kj38 a2 a1).bind fun t297 => (if (t296 == t297) = true then ((text_Magic.f kj38 a2).bind fun t298 => ((errataref02_Magic.f kj38 a2).bind fun t299 => (if (t298 == t299) = true then ((text_Plain.f a2).bind fun t300 => ((errataref02_Plain.f kj38 a2).bind fun t301 => (if t300.toList = t301.toList then ((text_Escape.f a1).bind fun t302 => ((errataref02_Escape.f kj38 a1).bind fun t303 => (some (t302.toList == t303.toList)))) else (some false)))) else (some false)))) else (some false))) = some r := H
                            have A72 := Aside0.mk A720
                            clear A720
                            replace H := Option.bind_eq_some_iff.mp H
                            obtain ⟨t297, A730, H⟩ := H
                            replace H : (if (t296 == t297) = true then ((text_Magic.f kj38 a2).bind fun t298 => ((errataref02_Magic.f kj38 a2).bind fun t299 => (if (t298 == t299) = true then ((text_Plain.f a2).bind fun t300 => ((errataref02_Plain.f kj38 a2).bind fun t301 => (if t300.toList = t301.toList then ((text_Escape.f a1).bind fun t302 => ((errataref02_Escape.f kj38 a1).bind fun t303 => (some (t302.toList == t303.toList)))) else (some false)))) else (some false)))) else (some false)) = some r := H
                            have A73 := Aside0.mk A730
                            clear A730
                            by_cases c74 : (t296 == t297) = true
                            · rw [if_pos c74] at H
                              have c74b0 : (t296 == t297) = true := c74
                              (try (have c74b1 : decide (t296 = t297) = true := by simpa using c74))
                              (try (have c74b2 : (t296 == t297) = true := by simpa using c74))
                              clear c74
                              replace H := Option.bind_eq_some_iff.mp H
                              obtain ⟨t298, A750, H⟩ := H
                              replace H : ((errataref02_Magic.f kj38 a2).bind fun t299 => (if (t298 == t299) = true then ((text_Plain.f a2).bind fun t300 => ((errataref02_Plain.f kj38 a2).bind fun t301 => (if t300.toList = t301.toList then ((text_Escape.f a1).bind fun t302 => ((errataref02_Escape.f kj38 a1).bind fun t303 => (some (t302.toList == t303.toList)))) else (some false)))) else (some false))) = some r := H
                              have A75 := Aside0.mk A750
                              clear A750
                              replace H := Option.bind_eq_some_iff.mp H
                              obtain ⟨t299, A760, H⟩ := H
                              replace H : (if (t298 == t299) = true then ((text_Plain.f a2).bind fun t300 => ((errataref02_Plain.f kj38 a2).bind fun t301 => (if t300.toList = t301.toList then ((text_Escape.f a1).bind fun t302 => ((errataref02_Escape.f kj38 a1).bind fun t303 => (some (t302.toList == t303.toList)))) else (some false)))) else (some false)) = some r := H
                              have A76 := Aside0.mk A760
                              clear A760
                              by_cases c77 : (t298 == t299) = true
                              · rw [if_pos c77] at H
                                have c77b0 : (t298 == t299) = true := c77
                                (try (have c77b1 : decide (t298 = t299) = true := by simpa using c77))
                                (try (have c77b2 : (t298 == t299) = true := by simpa using c77))
                                clear c77
                                replace H := Option.bind_eq_some_iff.mp H
                                obtain ⟨t300, A780, H⟩ := H
                                replace H : ((errataref02_Plain.f kj38 a2).bind fun t301 => (if t300.toList = t301.toList then ((text_Escape.f a1).bind fun t302 => ((errataref02_Escape.f kj38 a1).bind fun t303 => (some (t302.toList == t303.toList)))) else (some false))) = some r := H
                                have A78 := Aside0.mk A780
                                clear A780
                                replace H := Option.bind_eq_some_iff.mp H
                                obtain ⟨t301, A790, H⟩ := H
                                replace H : (if t300.toList = t301.toList then ((text_Escape.f a1).bind fun t302 => ((errataref02_Escape.f kj38 a1).bind fun t303 => (some (t302.toList == t303.toList)))) else (some false)) = some r := H
                                have A79 := Aside0.mk A790
                                clear A790
                                by_cases c80 : t300.toList = t301.toList
                                · rw [if_pos c80] at H
                                  have c80b0 : (t300.toList == t301.toList) = true := beq_iff_eq.mpr c80
                                  have c80b1 : (t300.toList != t301.toList) = false := bne_eq_false_iff_eq.mpr c80
                                  clear c80
                                  replace H := Option.bind_eq_some_iff.mp H
                                  obtain ⟨t302, A810, H⟩ := H
                                  replace H : ((errataref02_Escape.f kj38 a1).bind fun t303 => (some (t302.toList == t303.toList))) = some r := H
                                  have A81 := Aside0.mk A810
                                  clear A810
                                  replace H := Option.bind_eq_some_iff.mp H
                                  obtain ⟨t303, A820, H⟩ := H
                                  replace H : (some (t302.toList == t303.toList)) = some r := H
                                  have A82 := Aside0.mk A820
                                  clear A820
                                  obtain rfl := Option.some.inj H
                                  go_wp2_with (first | (go_at_call 18; (with_reducible refine (text_Pattern.calls a2 a1 t296 _ A72.out).mono ?_); rintro e w83 ⟨rfl, hb⟩; have n0_ := Aside0.mk (below_step (by repeat (first | (with_reducible first | exact HB.out | apply below_alloc | apply pw_below_drewN | apply below_drew1) | exact HB.out)) hb); clear HB; have HB := n0_; clear n0_; (try clear hb); (try clear hb2); (try clear hk); (try clear hi)) | (go_at_call 40; (with_reducible refine (errataref02_Pattern.calls kj38 a2 a1 t297 _ A73.out).mono ?_); rintro e w84 ⟨rfl, hb⟩; have n0_ := Aside0.mk (below_step (by repeat (first | (with_reducible first | exact HB.out | apply below_alloc | apply pw_below_drewN | apply below_drew1) | exact HB.out)) hb); clear HB; have HB := n0_; clear n0_; (try clear hb); (try clear hb2); (try clear hk); (try clear hi)) | (go_at_call 24; (with_reducible refine (text_Magic.calls kj38 a2 t298 _ A75.out).mono ?_); rintro e w85 ⟨rfl, hb⟩; have n0_ := Aside0.mk (below_step (by repeat (first | (with_reducible first | exact HB.out | apply below_alloc | apply pw_below_drewN | apply below_drew1) | exact HB.out)) hb); clear HB; have HB := n0_; clear n0_; (try clear hb); (try clear hb2); (try clear hk); (try clear hi)) | (go_at_call 41; (with_reducible refine (errataref02_Magic.calls kj38 a2 t299 _ A76.out).mono ?_); rintro e w86 ⟨rfl, hb⟩; have n0_ := Aside0.mk (below_step (by repeat (first | (with_reducible first | exact HB.out | apply below_alloc | apply pw_below_drewN | apply below_drew1) | exact HB.out)) hb); clear HB; have HB := n0_; clear n0_; (try clear hb); (try clear hb2); (try clear hk); (try clear hi)) | (go_at_call 25; (with_reducible refine (text_Plain.calls a2 t300 _ A78.out).mono ?_); rintro e w87 ⟨rfl, hb⟩; have n0_ := Aside0.mk (below_step (by repeat (first | (with_reducible first | exact HB.out | apply below_alloc | apply pw_below_drewN | apply below_drew1) | exact HB.out)) hb); clear HB; have HB := n0_; clear n0_; (try clear hb); (try clear hb2); (try clear hk); (try clear hi)) | (go_at_call 42; (with_reducible refine (errataref02_Plain.calls kj38 a2 t301 _ A79.out).mono ?_); rintro e w88 ⟨rfl, hb⟩; have n0_ := Aside0.mk (below_step (by repeat (first | (with_reducible first | exact HB.out | apply below_alloc | apply pw_below_drewN | apply below_drew1) | exact HB.out)) hb); clear HB; have HB := n0_; clear n0_; (try clear hb); (try clear hb2); (try clear hk); (try clear hi)) | (go_at_call 19; (with_reducible refine (text_Escape.calls a1 t302 _ A81.out).mono ?_); rintro e w89 ⟨rfl, hb⟩; have n0_ := Aside0.mk (below_step (by repeat (first | (with_reducible first | exact HB.out | apply below_alloc | apply pw_below_drewN | apply below_drew1) | exact HB.out)) hb); clear HB; have HB := n0_; clear n0_; (try clear hb); (try clear hb2); (try clear hk); (try clear hi)) | (go_at_call 43; (with_reducible refine (errataref02_Escape.calls kj38 a1 t303 _ A82.out).mono ?_); rintro e w90 ⟨rfl, hb⟩; have n0_ := Aside0.mk (below_step (by repeat (first | (with_reducible first | exact HB.out | apply below_alloc | apply pw_below_drewN | apply below_drew1) | exact HB.out)) hb); clear HB; have HB := n0_; clear n0_; (try clear hb); (try clear hb2); (try clear hk); (try clear hi)))
                                  go_ret
                                  exact ⟨by first | rfl | (simp [errW_none, errW_some] <;> rfl) | (simp [*, errW_none, errW_some] <;> rfl), by repeat (first | (with_reducible first | exact HB.out | apply below_alloc | apply pw_below_drewN | apply below_drew1) | exact HB.out)⟩
                                · rw [if_neg c80] at H
                                  have c80b0 : (t300.toList == t301.toList) = false := beq_eq_false_iff_ne.mpr c80
                                  have c80b1 : (t300.toList != t301.toList) = true := bne_iff_ne.mpr c80
                                  obtain rfl := Option.some.inj H
                                  go_wp2_with (first | (go_at_call 18; (with_reducible refine (text_Pattern.calls a2 a1 t296 _ A72.out).mono ?_); rintro e w91 ⟨rfl, hb⟩; have n0_ := Aside0.mk (below_step (by repeat (first | (with_reducible first | exact HB.out | apply below_alloc | apply pw_below_drewN | apply below_drew1) | exact HB.out)) hb); clear HB; have HB := n0_; clear n0_; (try clear hb); (try clear hb2); (try clear hk); (try clear hi)) | (go_at_call 40; (with_reducible refine (errataref02_Pattern.calls kj38 a2 a1 t297 _ A73.out).mono ?_); rintro e w92 ⟨rfl, hb⟩; have n0_ := Aside0.mk (below_step (by repeat (first | (with_reducible first | exact HB.out | apply below_alloc | apply pw_below_drewN | apply below_drew1) | exact HB.out)) hb); clear HB; have HB := n0_; clear n0_; (try clear hb); (try clear hb2); (try clear hk); (try clear hi)) | (go_at_call 24; (with_reducible refine (text_Magic.calls kj38 a2 t298 _ A75.out).mono ?_); rintro e w93 ⟨rfl, hb⟩; have n0_ := Aside0.mk (below_step (by repeat (first | (with_reducible first | exact HB.out | apply below_alloc | apply pw_below_drewN | apply below_drew1) | exact HB.out)) hb); clear HB; have HB := n0_; clear n0_; (try clear hb); (try clear hb2); (try clear hk); (try clear hi)) | (go_at_call 41; (with_reducible refine (errataref02_Magic.calls kj38 a2 t299 _ A76.out).mono ?_); rintro e w94 ⟨rfl, hb⟩; have n0_ := Aside0.mk (below_step (by repeat (first | (with_reducible first | exact HB.out | apply below_alloc | apply pw_below_drewN | apply below_drew1) | exact HB.out)) hb); clear HB; have HB := n0_; clear n0_; (try clear hb); (try clear hb2); (try clear hk); (try clear hi)) | (go_at_call 25; (with_reducible refine (text_Plain.calls a2 t300 _ A78.out).mono ?_); rintro e w95 ⟨rfl, hb⟩; have n0_ := Aside0.mk (below_step (by repeat (first | (with_reducible first | exact HB.out | apply below_alloc | apply pw_below_drewN | apply below_drew1) | exact HB.out)) hb); clear HB; have HB := n0_; clear n0_; (try clear hb); (try clear hb2); (try clear hk); (try clear hi)) | (go_at_call 42; (with_reducible refine (errataref02_Plain.calls kj38 a2 t301 _ A79.out).mono ?_); rintro e w96 ⟨rfl, hb⟩; have n0_ := Aside0.mk (below_step (by repeat (first | (with_reducible first | exact HB.out | apply below_alloc | apply pw_below_drewN | apply below_drew1) | exact HB.out)) hb); clear HB; have HB := n0_; clear n0_; (try clear hb); (try clear hb2); (try clear hk); (try clear hi)))
                                  go_ret
                                  exact ⟨by first | rfl | (simp [errW_none, errW_some] <;> rfl) | (simp [*, errW_none, errW_some] <;> rfl), by repeat (first | (with_reducible first | exact HB.out | apply below_alloc | apply pw_below_drewN | apply below_drew1) | exact HB.out)⟩
                              · rw [if_neg c77] at H
                                have c77b0 : (t298 == t299) = false := by simpa using c77
                                (try (have c77b1 : decide (t298 = t299) = false := by simpa using c77))
                                (try (have c77b2 : (t298 == t299) = false := by simpa using c77))
                                (try (have c77b3 : ¬ (t298 = t299) := by simpa using c77))
                                clear c77
                                obtain rfl := Option.some.inj H
                                go_wp2_with (first | (go_at_call 18; (with_reducible refine (text_Pattern.calls a2 a1 t296 _ A72.out).mono ?_); rintro e w97 ⟨rfl, hb⟩; have n0_ := Aside0.mk (below_step (by repeat (first | (with_reducible first | exact HB.out | apply below_alloc | apply pw_below_drewN | apply below_drew1) | exact HB.out)) hb); clear HB; have HB := n0_; clear n0_; (try clear hb); (try clear hb2); (try clear hk); (try clear hi)) | (go_at_call 40; (with_reducible refine (errataref02_Pattern.calls kj38 a2 a1 t297 _ A73.out).mono ?_); rintro e w98 ⟨rfl, hb⟩; have n0_ := Aside0.mk (below_step (by repeat (first | (with_reducible first | exact HB.out | apply below_alloc | apply pw_below_drewN | apply below_drew1) | exact HB.out)) hb); clear HB; have HB := n0_; clear n0_; (try clear hb); (try clear hb2); (try clear hk); (try clear hi)) | (go_at_call 24; (with_reducible refine (text_Magic.calls kj38 a2 t298 _ A75.out).mono ?_); rintro e w99 ⟨rfl, hb⟩; have n0_ := Aside0.mk (below_step (by repeat (first | (with_reducible first | exact HB.out | apply below_alloc | apply pw_below_drewN | apply below_drew1) | exact HB.out)) hb); clear HB; have HB := n0_; clear n0_; (try clear hb); (try clear hb2); (try clear hk); (try clear hi)) | (go_at_call 41; (with_reducible refine (errataref02_Magic.calls kj38 a2 t299 _ A76.out).mono ?_); rintro e w100 ⟨rfl, hb⟩; have n0_ := Aside0.mk (below_step (by repeat (first | (with_reducible first | exact HB.out | apply below_alloc | apply pw_below_drewN | apply below_drew1) | exact HB.out)) hb); clear HB; have HB := n0_; clear n0_; (try clear hb); (try clear hb2); (try clear hk); (try clear hi)))
                                go_ret
                                exact ⟨by first | rfl | (simp [errW_none, errW_some] <;> rfl) | (simp [*, errW_none, errW_some] <;> rfl), by repeat (first | (with_reducible first | exact HB.out | apply below_alloc | apply pw_below_drewN | apply below_drew1) | exact HB.out)⟩
                            · rw [if_neg c74] at H
                              have c74b0 : (t296 == t297) = false := by simpa using c74
                              (try (have c74b1 : decide (t296 = t297) = false := by simpa using c74))
                              (try (have c74b2 : (t296 == t297) = false := by simpa using c74))
                              (try (have c74b3 : ¬ (t296 = t297) := by simpa using c74))
                              clear c74
                              obtain rfl := Option.some.inj H
                              go_wp2_with (first | (go_at_call 18; (with_reducible refine (text_Pattern.calls a2 a1 t296 _ A72.out).mono ?_); rintro e w101 ⟨rfl, hb⟩; have n0_ := Aside0.mk (below_step (by repeat (first | (with_reducible first | exact HB.out | apply below_alloc | apply pw_below_drewN | apply below_drew1) | exact HB.out)) hb); clear HB; have HB := n0_; clear n0_; (try clear hb); (try clear hb2); (try clear hk); (try clear hi)) | (go_at_call 40; (with_reducible refine (errataref02_Pattern.calls kj38 a2 a1 t297 _ A73.out).mono ?_); rintro e w102 ⟨rfl, hb⟩; have n0_ := Aside0.mk (below_step (by repeat (first | (with_reducible first | exact HB.out | apply below_alloc | apply pw_below_drewN | apply below_drew1) | exact HB.out)) hb); clear HB; have HB := n0_; clear n0_; (try clear hb); (try clear hb2); (try clear hk); (try clear hi)))
                              go_ret
                              exact ⟨by first | rfl | (simp [errW_none, errW_some] <;> rfl) | (simp [*, errW_none, errW_some] <;> rfl), by repeat (first | (with_reducible first | exact HB.out | apply below_alloc | apply pw_below_drewN | apply below_drew1) | exact HB.out)⟩
                          · replace c71 := Bool.eq_false_iff.mpr c71
                            subst c71
                            have H1 : (some false) = some r := by rw [if_neg (show ¬ (false = true) by decide)] at H; exact H
                            clear H
                            have H := H1
                            clear H1
                            obtain rfl := Option.some.inj H
                            go_wp2
                            go_ret
                            exact ⟨by first | rfl | (simp [errW_none, errW_some] <;> rfl) | (simp [*, errW_none, errW_some] <;> rfl), by repeat (first | (with_reducible first | exact HB.out | apply below_alloc | apply pw_below_drewN | apply below_drew1) | exact HB.out)⟩

end Go.Proofs.YtfefbnfmngdicaaDoor.PX
