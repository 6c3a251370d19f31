-- Written by a program of this session (wip/tools): the kit's printer, turned to take contracts that were proved by hand.
import Derived.Test.YtfefbnfmngdicaaDoorPX0
import Derived.Test.YtfefbnfmngdicaaDoorPX2
import Derived.Test.YtfefbnfmngdicaaDoorPX16
import Derived.Test.YtfefbnfmngdicaaDoorE2
import Derived.Test.YtfefbnfmngdicaaDoorE3
import Derived.Test.YtfefbnfmngdicaaDoorEnv
namespace Go.Proofs.YtfefbnfmngdicaaDoor.PX
open Go.RowKit Go.Proofs.YtfefbnfmngdicaaDoorW.PrintWords Go.Proofs.YtfefbnfmngdicaaDoorW.PrintLast Go.Proofs.YtfefbnfmngdicaaDoorW.PrintMore
attribute [local go_sem] max2_int min2_int max_two min_two max_three min_three max_four min_four   -- for this text's walks alone
set_option linter.unusedVariables false
set_option linter.unusedSimpArgs false

/-! ### erratalaw02_TextLines: function 3 -/
mutual
def erratalaw02_TextLines.j0 : Nat → List ByteArray → ByteArray → Bool → Bool → Option (Bool)
  | 0, _, _, _, _ => none
  | k + 1, x0, x1, x5, x25 => if x25 = true then (some x5) else (erratalaw02_TextLines.l0 k x0 x1 x5 true 0)
def erratalaw02_TextLines.l0 : Nat → List ByteArray → ByteArray → Bool → Bool → Int → Option (Bool)
  | 0, _, _, _, _, _ => none
  | k + 1, x0, x1, x5, x6, x7 => if x7 < (x0.length : Int) then (if 0 ≤ x7 then (if ((rdOf ByteArray.empty x0 x7).size : Int) > 100 then (some x5) else (erratalaw02_TextLines.l1 k x0 x1 x5 x6 x7 0)) else (none)) else (if x6 = true then ((text_Unlines.f x0).bind fun t346 => ((text_Lines.f t346).bind fun t347 => ((errataref02_Same.f k t347 x0).bind fun t350 => (erratalaw02_TextLines.j3 k x1 x5 (!t350))))) else (erratalaw02_TextLines.j3 k x1 x5 false))
def erratalaw02_TextLines.l1 : Nat → List ByteArray → ByteArray → Bool → Bool → Int → Int → Option (Bool)
  | 0, _, _, _, _, _, _ => none
  | k + 1, x0, x1, x5, x6, x7, x8 => if 0 ≤ x7 then (if x7 < (x0.length : Int) then (if x8 < ((rdOf ByteArray.empty x0 x7).size : Int) then (if x6 = true then (if 0 ≤ x8 then (erratalaw02_TextLines.l1 k x0 x1 x5 ((bt (rdOf ByteArray.empty x0 x7) x8) != 10) x7 (wrap64 (x8 + 1))) else (none)) else (erratalaw02_TextLines.l1 k x0 x1 x5 false x7 (wrap64 (x8 + 1)))) else (erratalaw02_TextLines.l0 k x0 x1 x5 x6 (wrap64 (x7 + 1)))) else (none)) else (none)
def erratalaw02_TextLines.j3 : Nat → ByteArray → Bool → Bool → Option (Bool)
  | 0, _, _, _ => none
  | k + 1, x1, x5, x67 => if x67 = true then (some false) else ((text_Lines.f x1).bind fun t351 => (if x1.toList = ([] : List UInt8) then (erratalaw02_TextLines.j4 k x1 x5 t351 x1 false) else (if 0 ≤ (wrap64 ((x1.size : Int) - 1)) then (if (wrap64 ((x1.size : Int) - 1)) < (x1.size : Int) then (erratalaw02_TextLines.j4 k x1 x5 t351 x1 ((bt x1 (wrap64 ((x1.size : Int) - 1))) != 10)) else (none)) else (none))))
def erratalaw02_TextLines.j4 : Nat → ByteArray → Bool → List ByteArray → ByteArray → Bool → Option (Bool)
  | 0, _, _, _, _, _ => none
  | k + 1, x1, x5, x9, x10, x80 => if x80 = true then (if x1.size + 1 ≤ 9223372036854775807 then (erratalaw02_TextLines.j5 k x1 x5 x9 (x1 ++ (⟨#[10]⟩ : ByteArray))) else (none)) else (erratalaw02_TextLines.j5 k x1 x5 x9 x10)
def erratalaw02_TextLines.j5 : Nat → ByteArray → Bool → List ByteArray → ByteArray → Option (Bool)
  | 0, _, _, _, _ => none
  | k + 1, x1, x5, x9, x10 => erratalaw02_TextLines.l2 k x1 x5 x9 x10 ([] : List ByteArray) 0
def erratalaw02_TextLines.l2 : Nat → ByteArray → Bool → List ByteArray → ByteArray → List ByteArray → Int → Option (Bool)
  | 0, _, _, _, _, _, _ => none
  | k + 1, x1, x5, x9, x10, x11, x12 => if x12 < (x9.length : Int) then (erratalaw02_TextLines.l3 k x1 x5 x9 x10 x11 x12 0) else (erratalaw02_TextLines.l4 k x1 x5 x9 x10 x11 0)
def erratalaw02_TextLines.l3 : Nat → ByteArray → Bool → List ByteArray → ByteArray → List ByteArray → Int → Int → Option (Bool)
  | 0, _, _, _, _, _, _, _ => none
  | k + 1, x1, x5, x9, x10, x11, x12, x13 => if 0 ≤ x12 then (if x12 < (x9.length : Int) then (if x13 < ((rdOf ByteArray.empty x9 x12).size : Int) then (if 0 ≤ x13 then (if (bt (rdOf ByteArray.empty x9 x12) x13) = 10 then (some false) else (erratalaw02_TextLines.l3 k x1 x5 x9 x10 x11 x12 (wrap64 (x13 + 1)))) else (none)) else ((text_Fields.f (rdOf ByteArray.empty x9 x12)).bind fun t357 => (if x11.length + t357.length < 8796093022208 then (erratalaw02_TextLines.l2 k x1 x5 x9 x10 (x11 ++ t357) (wrap64 (x12 + 1))) else (none)))) else (none)) else (none)
def erratalaw02_TextLines.l4 : Nat → ByteArray → Bool → List ByteArray → ByteArray → List ByteArray → Int → Option (Bool)
  | 0, _, _, _, _, _, _ => none
  | k + 1, x1, x5, x9, x10, x11, x14 => if x14 < (x11.length : Int) then (erratalaw02_TextLines.l5 k x1 x5 x9 x10 x11 x14 0) else (if x5 = true then ((text_Unlines.f x9).bind fun t363 => (if t363.toList = x10.toList then ((text_Fields.f x1).bind fun t364 => ((errataref02_Same.f k t364 x11).bind fun t367 => (some t367))) else (some false))) else (some false))
def erratalaw02_TextLines.l5 : Nat → ByteArray → Bool → List ByteArray → ByteArray → List ByteArray → Int → Int → Option (Bool)
  | 0, _, _, _, _, _, _, _ => none
  | k + 1, x1, x5, x9, x10, x11, x14, x15 => if 0 ≤ x14 then (if x14 < (x11.length : Int) then (if x15 < ((rdOf ByteArray.empty x11 x14).size : Int) then (if 0 ≤ x15 then (if (bt (rdOf ByteArray.empty x11 x14) x15) = 32 then (some false) else (if (bt (rdOf ByteArray.empty x11 x14) x15) = 9 then (some false) else (if (bt (rdOf ByteArray.empty x11 x14) x15) = 10 then (some false) else (erratalaw02_TextLines.l5 k x1 x5 x9 x10 x11 x14 (wrap64 (x15 + 1)))))) else (none)) else (if (rdOf ByteArray.empty x11 x14).toList = ([] : List UInt8) then (some false) else (erratalaw02_TextLines.l4 k x1 x5 x9 x10 x11 (wrap64 (x14 + 1))))) else (none)) else (none)
end
def erratalaw02_TextLines.f (k : Nat) (l0 : List ByteArray) (a1 : ByteArray) : Option (Bool) := (erratalaw02_small.f k).bind fun t342 => (if (l0.length : Int) > 30 then (erratalaw02_TextLines.j0 k l0 a1 t342 true) else (erratalaw02_TextLines.j0 k l0 a1 t342 (decide ((a1.size : Int) > 300))))
theorem erratalaw02_TextLines.mono_l : ∀ k, (∀ y0 y1 y2 y3, LeO (erratalaw02_TextLines.j0 k y0 y1 y2 y3) (erratalaw02_TextLines.j0 (k + 1) y0 y1 y2 y3)) ∧ (∀ y0 y1 y2 y3 y4, LeO (erratalaw02_TextLines.l0 k y0 y1 y2 y3 y4) (erratalaw02_TextLines.l0 (k + 1) y0 y1 y2 y3 y4)) ∧ (∀ y0 y1 y2 y3 y4 y5, LeO (erratalaw02_TextLines.l1 k y0 y1 y2 y3 y4 y5) (erratalaw02_TextLines.l1 (k + 1) y0 y1 y2 y3 y4 y5)) ∧ (∀ y0 y1 y2, LeO (erratalaw02_TextLines.j3 k y0 y1 y2) (erratalaw02_TextLines.j3 (k + 1) y0 y1 y2)) ∧ (∀ y0 y1 y2 y3 y4, LeO (erratalaw02_TextLines.j4 k y0 y1 y2 y3 y4) (erratalaw02_TextLines.j4 (k + 1) y0 y1 y2 y3 y4)) ∧ (∀ y0 y1 y2 y3, LeO (erratalaw02_TextLines.j5 k y0 y1 y2 y3) (erratalaw02_TextLines.j5 (k + 1) y0 y1 y2 y3)) ∧ (∀ y0 y1 y2 y3 y4 y5, LeO (erratalaw02_TextLines.l2 k y0 y1 y2 y3 y4 y5) (erratalaw02_TextLines.l2 (k + 1) y0 y1 y2 y3 y4 y5)) ∧ (∀ y0 y1 y2 y3 y4 y5 y6, LeO (erratalaw02_TextLines.l3 k y0 y1 y2 y3 y4 y5 y6) (erratalaw02_TextLines.l3 (k + 1) y0 y1 y2 y3 y4 y5 y6)) ∧ (∀ y0 y1 y2 y3 y4 y5, LeO (erratalaw02_TextLines.l4 k y0 y1 y2 y3 y4 y5) (erratalaw02_TextLines.l4 (k + 1) y0 y1 y2 y3 y4 y5)) ∧ (∀ y0 y1 y2 y3 y4 y5 y6, LeO (erratalaw02_TextLines.l5 k y0 y1 y2 y3 y4 y5 y6) (erratalaw02_TextLines.l5 (k + 1) y0 y1 y2 y3 y4 y5 y6))
  | 0 => ⟨fun _ _ _ _ r h => by simp [erratalaw02_TextLines.j0] at h, fun _ _ _ _ _ r h => by simp [erratalaw02_TextLines.l0] at h, fun _ _ _ _ _ _ r h => by simp [erratalaw02_TextLines.l1] at h, fun _ _ _ r h => by simp [erratalaw02_TextLines.j3] at h, fun _ _ _ _ _ r h => by simp [erratalaw02_TextLines.j4] at h, fun _ _ _ _ r h => by simp [erratalaw02_TextLines.j5] at h, fun _ _ _ _ _ _ r h => by simp [erratalaw02_TextLines.l2] at h, fun _ _ _ _ _ _ _ r h => by simp [erratalaw02_TextLines.l3] at h, fun _ _ _ _ _ _ r h => by simp [erratalaw02_TextLines.l4] at h, fun _ _ _ _ _ _ _ r h => by simp [erratalaw02_TextLines.l5] at h⟩
  | k + 1 => by
    obtain ⟨ih0, ih1, ih2, ih3, ih4, ih5, ih6, ih7, ih8, ih9⟩ := erratalaw02_TextLines.mono_l k
    refine ⟨?_, ?_, ?_, ?_, ?_, ?_, ?_, ?_, ?_, ?_⟩
    · intro y0 y1 y2 y3
      unfold erratalaw02_TextLines.j0
      repeat' first
      | (with_reducible exact ih0 _ _ _ _)
      | (with_reducible exact ih1 _ _ _ _ _)
      | (with_reducible exact ih2 _ _ _ _ _ _)
      | (with_reducible exact ih3 _ _ _)
      | (with_reducible exact ih4 _ _ _ _ _)
      | (with_reducible exact ih5 _ _ _ _)
      | (with_reducible exact ih6 _ _ _ _ _ _)
      | (with_reducible exact ih7 _ _ _ _ _ _ _)
      | (with_reducible exact ih8 _ _ _ _ _ _)
      | (with_reducible exact ih9 _ _ _ _ _ _ _)
      | (with_reducible exact erratalaw02_small.mono _)
      | (with_reducible exact errataref02_Same.mono _ _ _)
      | (with_reducible exact LeO.refl _)
      | (with_reducible exact LeO.none _)
      | (with_reducible refine LeO.ite ?_ ?_)
      | (with_reducible refine LeO.bind ?_ (fun _ => ?_))
      | exact ih0 _ _ _ _
      | exact ih1 _ _ _ _ _
      | exact ih2 _ _ _ _ _ _
      | exact ih3 _ _ _
      | exact ih4 _ _ _ _ _
      | exact ih5 _ _ _ _
      | exact ih6 _ _ _ _ _ _
      | exact ih7 _ _ _ _ _ _ _
      | exact ih8 _ _ _ _ _ _
      | exact ih9 _ _ _ _ _ _ _
      | exact erratalaw02_small.mono _
      | exact errataref02_Same.mono _ _ _
      | exact LeO.none _
      | refine LeO.ite ?_ ?_
      | refine LeO.bind ?_ (fun _ => ?_)
    · intro y0 y1 y2 y3 y4
      unfold erratalaw02_TextLines.l0
      repeat' first
      | (with_reducible exact ih0 _ _ _ _)
      | (with_reducible exact ih1 _ _ _ _ _)
      | (with_reducible exact ih2 _ _ _ _ _ _)
      | (with_reducible exact ih3 _ _ _)
      | (with_reducible exact ih4 _ _ _ _ _)
      | (with_reducible exact ih5 _ _ _ _)
      | (with_reducible exact ih6 _ _ _ _ _ _)
      | (with_reducible exact ih7 _ _ _ _ _ _ _)
      | (with_reducible exact ih8 _ _ _ _ _ _)
      | (with_reducible exact ih9 _ _ _ _ _ _ _)
      | (with_reducible exact erratalaw02_small.mono _)
      | (with_reducible exact errataref02_Same.mono _ _ _)
      | (with_reducible exact LeO.refl _)
      | (with_reducible exact LeO.none _)
      | (with_reducible refine LeO.ite ?_ ?_)
      | (with_reducible refine LeO.bind ?_ (fun _ => ?_))
      | exact ih0 _ _ _ _
      | exact ih1 _ _ _ _ _
      | exact ih2 _ _ _ _ _ _
      | exact ih3 _ _ _
      | exact ih4 _ _ _ _ _
      | exact ih5 _ _ _ _
      | exact ih6 _ _ _ _ _ _
      | exact ih7 _ _ _ _ _ _ _
      | exact ih8 _ _ _ _ _ _
      | exact ih9 _ _ _ _ _ _ _
      | exact erratalaw02_small.mono _
      | exact errataref02_Same.mono _ _ _
      | exact LeO.none _
      | refine LeO.ite ?_ ?_
      | refine LeO.bind ?_ (fun _ => ?_)
    · intro y0 y1 y2 y3 y4 y5
      unfold erratalaw02_TextLines.l1
      repeat' first
      | (with_reducible exact ih0 _ _ _ _)
      | (with_reducible exact ih1 _ _ _ _ _)
      | (with_reducible exact ih2 _ _ _ _ _ _)
      | (with_reducible exact ih3 _ _ _)
      | (with_reducible exact ih4 _ _ _ _ _)
      | (with_reducible exact ih5 _ _ _ _)
      | (with_reducible exact ih6 _ _ _ _ _ _)
      | (with_reducible exact ih7 _ _ _ _ _ _ _)
      | (with_reducible exact ih8 _ _ _ _ _ _)
      | (with_reducible exact ih9 _ _ _ _ _ _ _)
      | (with_reducible exact erratalaw02_small.mono _)
      | (with_reducible exact errataref02_Same.mono _ _ _)
      | (with_reducible exact LeO.refl _)
      | (with_reducible exact LeO.none _)
      | (with_reducible refine LeO.ite ?_ ?_)
      | (with_reducible refine LeO.bind ?_ (fun _ => ?_))
      | exact ih0 _ _ _ _
      | exact ih1 _ _ _ _ _
      | exact ih2 _ _ _ _ _ _
      | exact ih3 _ _ _
      | exact ih4 _ _ _ _ _
      | exact ih5 _ _ _ _
      | exact ih6 _ _ _ _ _ _
      | exact ih7 _ _ _ _ _ _ _
      | exact ih8 _ _ _ _ _ _
      | exact ih9 _ _ _ _ _ _ _
      | exact erratalaw02_small.mono _
      | exact errataref02_Same.mono _ _ _
      | exact LeO.none _
      | refine LeO.ite ?_ ?_
      | refine LeO.bind ?_ (fun _ => ?_)
    · intro y0 y1 y2
      unfold erratalaw02_TextLines.j3
      repeat' first
      | (with_reducible exact ih0 _ _ _ _)
      | (with_reducible exact ih1 _ _ _ _ _)
      | (with_reducible exact ih2 _ _ _ _ _ _)
      | (with_reducible exact ih3 _ _ _)
      | (with_reducible exact ih4 _ _ _ _ _)
      | (with_reducible exact ih5 _ _ _ _)
      | (with_reducible exact ih6 _ _ _ _ _ _)
      | (with_reducible exact ih7 _ _ _ _ _ _ _)
      | (with_reducible exact ih8 _ _ _ _ _ _)
      | (with_reducible exact ih9 _ _ _ _ _ _ _)
      | (with_reducible exact erratalaw02_small.mono _)
      | (with_reducible exact errataref02_Same.mono _ _ _)
      | (with_reducible exact LeO.refl _)
      | (with_reducible exact LeO.none _)
      | (with_reducible refine LeO.ite ?_ ?_)
      | (with_reducible refine LeO.bind ?_ (fun _ => ?_))
      | exact ih0 _ _ _ _
      | exact ih1 _ _ _ _ _
      | exact ih2 _ _ _ _ _ _
      | exact ih3 _ _ _
      | exact ih4 _ _ _ _ _
      | exact ih5 _ _ _ _
      | exact ih6 _ _ _ _ _ _
      | exact ih7 _ _ _ _ _ _ _
      | exact ih8 _ _ _ _ _ _
      | exact ih9 _ _ _ _ _ _ _
      | exact erratalaw02_small.mono _
      | exact errataref02_Same.mono _ _ _
      | exact LeO.none _
      | refine LeO.ite ?_ ?_
      | refine LeO.bind ?_ (fun _ => ?_)
    · intro y0 y1 y2 y3 y4
      unfold erratalaw02_TextLines.j4
      repeat' first
      | (with_reducible exact ih0 _ _ _ _)
      | (with_reducible exact ih1 _ _ _ _ _)
      | (with_reducible exact ih2 _ _ _ _ _ _)
      | (with_reducible exact ih3 _ _ _)
      | (with_reducible exact ih4 _ _ _ _ _)
      | (with_reducible exact ih5 _ _ _ _)
      | (with_reducible exact ih6 _ _ _ _ _ _)
      | (with_reducible exact ih7 _ _ _ _ _ _ _)
      | (with_reducible exact ih8 _ _ _ _ _ _)
      | (with_reducible exact ih9 _ _ _ _ _ _ _)
      | (with_reducible exact erratalaw02_small.mono _)
      | (with_reducible exact errataref02_Same.mono _ _ _)
      | (with_reducible exact LeO.refl _)
      | (with_reducible exact LeO.none _)
      | (with_reducible refine LeO.ite ?_ ?_)
      | (with_reducible refine LeO.bind ?_ (fun _ => ?_))
      | exact ih0 _ _ _ _
      | exact ih1 _ _ _ _ _
      | exact ih2 _ _ _ _ _ _
      | exact ih3 _ _ _
      | exact ih4 _ _ _ _ _
      | exact ih5 _ _ _ _
      | exact ih6 _ _ _ _ _ _
      | exact ih7 _ _ _ _ _ _ _
      | exact ih8 _ _ _ _ _ _
      | exact ih9 _ _ _ _ _ _ _
      | exact erratalaw02_small.mono _
      | exact errataref02_Same.mono _ _ _
      | exact LeO.none _
      | refine LeO.ite ?_ ?_
      | refine LeO.bind ?_ (fun _ => ?_)
    · intro y0 y1 y2 y3
      unfold erratalaw02_TextLines.j5
      repeat' first
      | (with_reducible exact ih0 _ _ _ _)
      | (with_reducible exact ih1 _ _ _ _ _)
      | (with_reducible exact ih2 _ _ _ _ _ _)
      | (with_reducible exact ih3 _ _ _)
      | (with_reducible exact ih4 _ _ _ _ _)
      | (with_reducible exact ih5 _ _ _ _)
      | (with_reducible exact ih6 _ _ _ _ _ _)
      | (with_reducible exact ih7 _ _ _ _ _ _ _)
      | (with_reducible exact ih8 _ _ _ _ _ _)
      | (with_reducible exact ih9 _ _ _ _ _ _ _)
      | (with_reducible exact erratalaw02_small.mono _)
      | (with_reducible exact errataref02_Same.mono _ _ _)
      | (with_reducible exact LeO.refl _)
      | (with_reducible exact LeO.none _)
      | (with_reducible refine LeO.ite ?_ ?_)
      | (with_reducible refine LeO.bind ?_ (fun _ => ?_))
      | exact ih0 _ _ _ _
      | exact ih1 _ _ _ _ _
      | exact ih2 _ _ _ _ _ _
      | exact ih3 _ _ _
      | exact ih4 _ _ _ _ _
      | exact ih5 _ _ _ _
      | exact ih6 _ _ _ _ _ _
      | exact ih7 _ _ _ _ _ _ _
      | exact ih8 _ _ _ _ _ _
      | exact ih9 _ _ _ _ _ _ _
      | exact erratalaw02_small.mono _
      | exact errataref02_Same.mono _ _ _
      | exact LeO.none _
      | refine LeO.ite ?_ ?_
      | refine LeO.bind ?_ (fun _ => ?_)
    · intro y0 y1 y2 y3 y4 y5
      unfold erratalaw02_TextLines.l2
      repeat' first
      | (with_reducible exact ih0 _ _ _ _)
      | (with_reducible exact ih1 _ _ _ _ _)
      | (with_reducible exact ih2 _ _ _ _ _ _)
      | (with_reducible exact ih3 _ _ _)
      | (with_reducible exact ih4 _ _ _ _ _)
      | (with_reducible exact ih5 _ _ _ _)
      | (with_reducible exact ih6 _ _ _ _ _ _)
      | (with_reducible exact ih7 _ _ _ _ _ _ _)
      | (with_reducible exact ih8 _ _ _ _ _ _)
      | (with_reducible exact ih9 _ _ _ _ _ _ _)
      | (with_reducible exact erratalaw02_small.mono _)
      | (with_reducible exact errataref02_Same.mono _ _ _)
      | (with_reducible exact LeO.refl _)
      | (with_reducible exact LeO.none _)
      | (with_reducible refine LeO.ite ?_ ?_)
      | (with_reducible refine LeO.bind ?_ (fun _ => ?_))
      | exact ih0 _ _ _ _
      | exact ih1 _ _ _ _ _
      | exact ih2 _ _ _ _ _ _
      | exact ih3 _ _ _
      | exact ih4 _ _ _ _ _
      | exact ih5 _ _ _ _
      | exact ih6 _ _ _ _ _ _
      | exact ih7 _ _ _ _ _ _ _
      | exact ih8 _ _ _ _ _ _
      | exact ih9 _ _ _ _ _ _ _
      | exact erratalaw02_small.mono _
      | exact errataref02_Same.mono _ _ _
      | exact LeO.none _
      | refine LeO.ite ?_ ?_
      | refine LeO.bind ?_ (fun _ => ?_)
    · intro y0 y1 y2 y3 y4 y5 y6
      unfold erratalaw02_TextLines.l3
      repeat' first
      | (with_reducible exact ih0 _ _ _ _)
      | (with_reducible exact ih1 _ _ _ _ _)
      | (with_reducible exact ih2 _ _ _ _ _ _)
      | (with_reducible exact ih3 _ _ _)
      | (with_reducible exact ih4 _ _ _ _ _)
      | (with_reducible exact ih5 _ _ _ _)
      | (with_reducible exact ih6 _ _ _ _ _ _)
      | (with_reducible exact ih7 _ _ _ _ _ _ _)
      | (with_reducible exact ih8 _ _ _ _ _ _)
      | (with_reducible exact ih9 _ _ _ _ _ _ _)
      | (with_reducible exact erratalaw02_small.mono _)
      | (with_reducible exact errataref02_Same.mono _ _ _)
      | (with_reducible exact LeO.refl _)
      | (with_reducible exact LeO.none _)
      | (with_reducible refine LeO.ite ?_ ?_)
      | (with_reducible refine LeO.bind ?_ (fun _ => ?_))
      | exact ih0 _ _ _ _
      | exact ih1 _ _ _ _ _
      | exact ih2 _ _ _ _ _ _
      | exact ih3 _ _ _
      | exact ih4 _ _ _ _ _
      | exact ih5 _ _ _ _
      | exact ih6 _ _ _ _ _ _
      | exact ih7 _ _ _ _ _ _ _
      | exact ih8 _ _ _ _ _ _
      | exact ih9 _ _ _ _ _ _ _
      | exact erratalaw02_small.mono _
      | exact errataref02_Same.mono _ _ _
      | exact LeO.none _
      | refine LeO.ite ?_ ?_
      | refine LeO.bind ?_ (fun _ => ?_)
    · intro y0 y1 y2 y3 y4 y5
      unfold erratalaw02_TextLines.l4
      repeat' first
      | (with_reducible exact ih0 _ _ _ _)
      | (with_reducible exact ih1 _ _ _ _ _)
      | (with_reducible exact ih2 _ _ _ _ _ _)
      | (with_reducible exact ih3 _ _ _)
      | (with_reducible exact ih4 _ _ _ _ _)
      | (with_reducible exact ih5 _ _ _ _)
      | (with_reducible exact ih6 _ _ _ _ _ _)
      | (with_reducible exact ih7 _ _ _ _ _ _ _)
      | (with_reducible exact ih8 _ _ _ _ _ _)
      | (with_reducible exact ih9 _ _ _ _ _ _ _)
      | (with_reducible exact erratalaw02_small.mono _)
      | (with_reducible exact errataref02_Same.mono _ _ _)
      | (with_reducible exact LeO.refl _)
      | (with_reducible exact LeO.none _)
      | (with_reducible refine LeO.ite ?_ ?_)
      | (with_reducible refine LeO.bind ?_ (fun _ => ?_))
      | exact ih0 _ _ _ _
      | exact ih1 _ _ _ _ _
      | exact ih2 _ _ _ _ _ _
      | exact ih3 _ _ _
      | exact ih4 _ _ _ _ _
      | exact ih5 _ _ _ _
      | exact ih6 _ _ _ _ _ _
      | exact ih7 _ _ _ _ _ _ _
      | exact ih8 _ _ _ _ _ _
      | exact ih9 _ _ _ _ _ _ _
      | exact erratalaw02_small.mono _
      | exact errataref02_Same.mono _ _ _
      | exact LeO.none _
      | refine LeO.ite ?_ ?_
      | refine LeO.bind ?_ (fun _ => ?_)
    · intro y0 y1 y2 y3 y4 y5 y6
      unfold erratalaw02_TextLines.l5
      repeat' first
      | (with_reducible exact ih0 _ _ _ _)
      | (with_reducible exact ih1 _ _ _ _ _)
      | (with_reducible exact ih2 _ _ _ _ _ _)
      | (with_reducible exact ih3 _ _ _)
      | (with_reducible exact ih4 _ _ _ _ _)
      | (with_reducible exact ih5 _ _ _ _)
      | (with_reducible exact ih6 _ _ _ _ _ _)
      | (with_reducible exact ih7 _ _ _ _ _ _ _)
      | (with_reducible exact ih8 _ _ _ _ _ _)
      | (with_reducible exact ih9 _ _ _ _ _ _ _)
      | (with_reducible exact erratalaw02_small.mono _)
      | (with_reducible exact errataref02_Same.mono _ _ _)
      | (with_reducible exact LeO.refl _)
      | (with_reducible exact LeO.none _)
      | (with_reducible refine LeO.ite ?_ ?_)
      | (with_reducible refine LeO.bind ?_ (fun _ => ?_))
      | exact ih0 _ _ _ _
      | exact ih1 _ _ _ _ _
      | exact ih2 _ _ _ _ _ _
      | exact ih3 _ _ _
      | exact ih4 _ _ _ _ _
      | exact ih5 _ _ _ _
      | exact ih6 _ _ _ _ _ _
      | exact ih7 _ _ _ _ _ _ _
      | exact ih8 _ _ _ _ _ _
      | exact ih9 _ _ _ _ _ _ _
      | exact erratalaw02_small.mono _
      | exact errataref02_Same.mono _ _ _
      | exact LeO.none _
      | refine LeO.ite ?_ ?_
      | refine LeO.bind ?_ (fun _ => ?_)
theorem erratalaw02_TextLines.mono : ∀ a0 a1 k, LeO (erratalaw02_TextLines.f k a0 a1) (erratalaw02_TextLines.f (k + 1) a0 a1) := by
  intro a0 a1 k
  obtain ⟨ih0, ih1, ih2, ih3, ih4, ih5, ih6, ih7, ih8, ih9⟩ := erratalaw02_TextLines.mono_l k
  unfold erratalaw02_TextLines.f
  repeat' first
      | (with_reducible exact ih0 _ _ _ _)
      | (with_reducible exact ih1 _ _ _ _ _)
      | (with_reducible exact ih2 _ _ _ _ _ _)
      | (with_reducible exact ih3 _ _ _)
      | (with_reducible exact ih4 _ _ _ _ _)
      | (with_reducible exact ih5 _ _ _ _)
      | (with_reducible exact ih6 _ _ _ _ _ _)
      | (with_reducible exact ih7 _ _ _ _ _ _ _)
      | (with_reducible exact ih8 _ _ _ _ _ _)
      | (with_reducible exact ih9 _ _ _ _ _ _ _)
      | (with_reducible exact erratalaw02_small.mono _)
      | (with_reducible exact errataref02_Same.mono _ _ _)
      | (with_reducible exact LeO.refl _)
      | (with_reducible exact LeO.none _)
      | (with_reducible refine LeO.ite ?_ ?_)
      | (with_reducible refine LeO.bind ?_ (fun _ => ?_))
      | exact ih0 _ _ _ _
      | exact ih1 _ _ _ _ _
      | exact ih2 _ _ _ _ _ _
      | exact ih3 _ _ _
      | exact ih4 _ _ _ _ _
      | exact ih5 _ _ _ _
      | exact ih6 _ _ _ _ _ _
      | exact ih7 _ _ _ _ _ _ _
      | exact ih8 _ _ _ _ _ _
      | exact ih9 _ _ _ _ _ _ _
      | exact erratalaw02_small.mono _
      | exact errataref02_Same.mono _ _ _
      | exact LeO.none _
      | refine LeO.ite ?_ ?_
      | refine LeO.bind ?_ (fun _ => ?_)
set_option maxHeartbeats 8000000 in
set_option maxRecDepth 100000 in
theorem erratalaw02_TextLines.calls (k : Nat) (A0 : Option Addr) (c0 : Nat) (l0 : List ByteArray) (a1 : ByteArray) (r : Bool) (w : World) (hE : Env w) (hr0 : Kd.C Kd.string w A0 l0.length l0) (hc0 : l0.length ≤ c0) (h : erratalaw02_TextLines.f k l0 a1 = some r) :
    Calls Tryd.prog 3 #[.slice A0 l0.length c0, .string a1] w fun e w' => e = .returned (.bool r) ∧ Below w.heap.size w w' := by
  have HR0 := Aside0.mk hr0
  have HC0 := Aside0.mk hc0
  clear hr0 hc0
  have HB := Aside0.mk (Below.refl w.heap.size w)
  have HE := Aside0.mk hE
  clear hE
  have H : ((erratalaw02_small.f k).bind fun t342 => (if (l0.length : Int) > 30 then (erratalaw02_TextLines.j0 k l0 a1 t342 true) else (erratalaw02_TextLines.j0 k l0 a1 t342 (decide ((a1.size : Int) > 300))))) = some r := h
  clear h
  replace H := Option.bind_eq_some_iff.mp H
  obtain ⟨t342, A30, H⟩ := H
  replace H : (if (l0.length : Int) > 30 then (erratalaw02_TextLines.j0 k l0 a1 t342 true) else (erratalaw02_TextLines.j0 k l0 a1 t342 (decide ((a1.size : Int) > 300)))) = some r := H
  have A3 := Aside0.mk A30
  clear A30
  have HC4 := Aside0.mk H
  clear H
  go_enter Tryd.func3, Tryd.ntmps3
  go_upto_region 2 with (first | ((with_reducible refine gate_callee (f := 13) rfl ?_); refine goesL_ (some 17) rfl rfl Tryd.func13 (by kernel_rfl) rfl #[] rfl (by (try simp only [List.map_toArray, List.map_cons, List.map_nil]); first | done | rfl | (simp only [List.length_drop, List.length_take]; rfl)) ?_; (with_reducible refine (erratalaw02_small.calls k  t342 _ ?side1 A3.out).mono ?_); (case side1 => exact envB HE.out (by repeat (first | (with_reducible first | exact HB.out | apply below_alloc | apply pw_below_drewN | apply below_drew1) | exact HB.out))); rintro e w5 ⟨rfl, hb⟩; refine ⟨_, rfl, ?_⟩; have n0_ := Aside0.mk (below_step (by repeat (first | (with_reducible first | exact HB.out | apply below_alloc | apply pw_below_drewN | apply below_drew1) | exact HB.out)) hb); clear HB; have HB := n0_; clear n0_; (try clear hb); (try clear hb2); (try clear hk); (try clear hi)))
  (try simp only [Act.put, List.setIfInBounds_toArray, List.set_cons_zero, List.set_cons_succ])
  go_cut [25] (fun v25 wc => ∃ (kq : Nat) (x25_3 : Bool), v25 = .bool x25_3 ∧ Aside0 (erratalaw02_TextLines.j0 kq l0 a1 t342 x25_3 = some r) ∧ Aside0 (kq ≤ k) ∧ Aside0 (Below w.heap.size w wc))
  case first =>
    have H := HC4.out
    clear HC4
    by_cases c6 : (l0.length : Int) > 30
    · rw [if_pos c6] at H
      have c6b0 : decide (30 < (l0.length : Int)) = true := decide_eq_true c6
      have c6b1 : decide (30 < l0.length) = true := decide_eq_true (by omega)
      clear c6
      (first | rw [c6b0] | (simp only [i64_w, i32_w]; rw [c6b0]) | skip)
      have H' := Aside0.mk H
      clear H
      go_wp2
      go_meet
      case rel => exact ⟨_, (true), (by first | rfl | (simp; done) | (simp [*]; done)), H', ⟨by first | omega | exact Nat.le_refl _⟩, ⟨by repeat (first | (with_reducible first | exact HB.out | apply below_alloc | apply pw_below_drewN | apply below_drew1) | exact HB.out)⟩⟩
    · rw [if_neg c6] at H
      have c6b0 : decide (30 < (l0.length : Int)) = false := decide_eq_false c6
      have c6b1 : decide (30 < l0.length) = false := decide_eq_false (by omega)
      clear c6
      (first | rw [c6b0] | (simp only [i64_w, i32_w]; rw [c6b0]) | skip)
      have H' := Aside0.mk H
      clear H
      go_wp2
      go_meet
      case rel => exact ⟨_, (decide ((a1.size : Int) > 300)), (by first | rfl | (simp; done) | (simp [*]; done)), H', ⟨by first | omega | exact Nat.le_refl _⟩, ⟨by repeat (first | (with_reducible first | exact HB.out | apply below_alloc | apply pw_below_drewN | apply below_drew1) | exact HB.out)⟩⟩
  case rest =>
    clear HC4
    try clear c1
    try clear p2
    try clear c3
    try clear c6
    try clear c6b0
    try clear c6b1
    obtain ⟨kq, x25_3, rfl, HA, HJ3, HB⟩ := hcut
    cases kq with
    | zero => exact absurd HA.out (by simp [erratalaw02_TextLines.j0])
    | succ kj3 =>
      have H := HA.out
      clear HA
      simp only [erratalaw02_TextLines.j0] at H
      by_cases c7 : x25_3 = true
      · subst c7
        have H1 : (some t342) = some r := by rw [if_pos rfl] at H; exact H
        clear H
        have H := H1
        clear H1
        obtain rfl := Option.some.inj H
        go_wp2
        go_ret
        exact ⟨by first | rfl | (simp [errW_none, errW_some] <;> rfl) | (simp [*, errW_none, errW_some] <;> rfl), by repeat (first | (with_reducible first | exact HB.out | apply below_alloc | apply pw_below_drewN | apply below_drew1) | exact HB.out)⟩
      · replace c7 := Bool.eq_false_iff.mpr c7
        subst c7
        have H1 : (erratalaw02_TextLines.l0 kj3 l0 a1 t342 true 0) = some r := by rw [if_neg (show ¬ (false = true) by decide)] at H; exact H
        clear H
        have H := H1
        clear H1
        have H' := Aside0.mk H
        clear H
        go_wp2
        go_loopg [6, 7] kj3 (fun kq v6 v7 w' => ∃ (x6_2 : Bool) (x7_2 : Int), v6 = .bool x6_2 ∧ v7 = .int .i64 x7_2 ∧ Aside0 (erratalaw02_TextLines.l0 kq l0 a1 t342 x6_2 x7_2 = some r) ∧ Aside0 (kq ≤ kj3) ∧ Aside0 (Below w.heap.size w w'))
        case atStart => exact ⟨(true), (0), (by first | rfl | (simp; done) | (simp [*]; done)), (by first | rfl | (simp; done) | (simp [*]; done)), H', ⟨Nat.le_refl _⟩, ⟨by repeat (first | (with_reducible first | exact HB.out | apply below_alloc | apply pw_below_drewN | apply below_drew1) | exact HB.out)⟩⟩
        case round =>
          clear H'
          try clear c1
          try clear p2
          try clear c3
          try clear c6
          try clear c6b0
          try clear c6b1
          try clear c7
          try clear p2
          obtain ⟨x6_2, x7_2, rfl, rfl, HA, HK2, HB⟩ := hrel
          cases gk with
          | zero => exact absurd HA.out (by simp [erratalaw02_TextLines.l0])
          | succ k2 =>
            have H := HA.out
            clear HA
            simp only [erratalaw02_TextLines.l0] at H
            by_cases c8 : x7_2 < (l0.length : Int)
            · rw [if_pos c8] at H
              have c8b0 : decide (x7_2 < (l0.length : Int)) = true := decide_eq_true c8
              clear c8
              by_cases c9 : 0 ≤ x7_2
              · rw [if_pos c9] at H
                have c9b0 : decide (0 ≤ x7_2) = true := decide_eq_true c9
                clear c9
                by_cases c10 : ((rdOf ByteArray.empty l0 x7_2).size : Int) > 100
                · rw [if_pos c10] at H
                  have c10b0 : decide (100 < ((rdOf ByteArray.empty l0 x7_2).size : Int)) = true := decide_eq_true c10
                  have c10b1 : decide (100 < (rdOf ByteArray.empty l0 x7_2).size) = true := decide_eq_true (by omega)
                  clear c10
                  obtain rfl := Option.some.inj H
                  have p343 : 0 ≤ (x7_2 : Int) := of_decide_eq_true (by first | (with_reducible assumption) | assumption)
                  have q343 : x7_2 < (l0.length : Int) := of_decide_eq_true (by first | (with_reducible assumption) | assumption)
                  obtain ⟨ad343, e343, hx343_0⟩ := Kd.at_string HR0.out x7_2 p343 q343
                  cases e343
                  replace hx343_0 := (HB.out.cell (World.block_lt_of_cell? w _ hx343_0)).trans hx343_0
                  replace p343 := eq_true p343
                  replace q343 := eq_true q343
                  go_wp2
                  go_ret
                  exact ⟨by first | rfl | (simp [errW_none, errW_some] <;> rfl) | (simp [*, errW_none, errW_some] <;> rfl), by repeat (first | (with_reducible first | exact HB.out | apply below_alloc | apply pw_below_drewN | apply below_drew1) | exact HB.out)⟩
                · rw [if_neg c10] at H
                  have c10b0 : decide (100 < ((rdOf ByteArray.empty l0 x7_2).size : Int)) = false := decide_eq_false c10
                  have c10b1 : decide (100 < (rdOf ByteArray.empty l0 x7_2).size) = false := decide_eq_false (by omega)
                  clear c10
                  have H' := Aside0.mk H
                  clear H
                  have p343 : 0 ≤ (x7_2 : Int) := of_decide_eq_true (by first | (with_reducible assumption) | assumption)
                  have q343 : x7_2 < (l0.length : Int) := of_decide_eq_true (by first | (with_reducible assumption) | assumption)
                  obtain ⟨ad343, e343, hx343_0⟩ := Kd.at_string HR0.out x7_2 p343 q343
                  cases e343
                  replace hx343_0 := (HB.out.cell (World.block_lt_of_cell? w _ hx343_0)).trans hx343_0
                  replace p343 := eq_true p343
                  replace q343 := eq_true q343
                  go_wp2
                  go_loopg [6, 8] k2 (fun kq v6 v8 w' => ∃ (x6_3 : Bool) (x8_3 : Int), v6 = .bool x6_3 ∧ v8 = .int .i64 x8_3 ∧ Aside0 (erratalaw02_TextLines.l1 kq l0 a1 t342 x6_3 x7_2 x8_3 = some r) ∧ Aside0 (kq ≤ k2) ∧ Aside0 (Below w.heap.size w w'))
                  case atStart => exact ⟨(x6_2), (0), (by first | rfl | (simp; done) | (simp [*]; done)), (by first | rfl | (simp; done) | (simp [*]; done)), H', ⟨Nat.le_refl _⟩, ⟨by repeat (first | (with_reducible first | exact HB.out | apply below_alloc | apply pw_below_drewN | apply below_drew1) | exact HB.out)⟩⟩
                  case round =>
                    clear H'
                    try clear c1
                    try clear p2
                    try clear c3
                    try clear p3
                    try clear q3
                    try clear hx3
                    try clear c6
                    try clear c6b0
                    try clear c6b1
                    try clear c7
                    try clear c8
                    try clear c8b0
                    try clear c9
                    try clear c9b0
                    try clear c10
                    try clear c10b0
                    try clear c10b1
                    try clear hx343_0
                    try clear p2
                    try clear p343
                    try clear q343
                    obtain ⟨x6_3, x8_3, rfl, rfl, HA, HK3, HB⟩ := hrel
                    cases gk with
                    | zero => exact absurd HA.out (by simp [erratalaw02_TextLines.l1])
                    | succ k3 =>
                      have H := HA.out
                      clear HA
                      simp only [erratalaw02_TextLines.l1] at H
                      by_cases c11 : 0 ≤ x7_2
                      · rw [if_pos c11] at H
                        have c11b0 : decide (0 ≤ x7_2) = true := decide_eq_true c11
                        clear c11
                        by_cases c12 : x7_2 < (l0.length : Int)
                        · rw [if_pos c12] at H
                          have c12b0 : decide (x7_2 < (l0.length : Int)) = true := decide_eq_true c12
                          clear c12
                          by_cases c13 : x8_3 < ((rdOf ByteArray.empty l0 x7_2).size : Int)
                          · rw [if_pos c13] at H
                            have c13b0 : decide (x8_3 < ((rdOf ByteArray.empty l0 x7_2).size : Int)) = true := decide_eq_true c13
                            clear c13
                            by_cases c14 : x6_3 = true
                            · subst c14
                              have H1 : (if 0 ≤ x8_3 then (erratalaw02_TextLines.l1 k3 l0 a1 t342 ((bt (rdOf ByteArray.empty l0 x7_2) x8_3) != 10) x7_2 (wrap64 (x8_3 + 1))) else (none)) = some r := by rw [if_pos rfl] at H; exact H
                              clear H
                              have H := H1
                              clear H1
                              by_cases c15 : 0 ≤ x8_3
                              · rw [if_pos c15] at H
                                have c15b0 : decide (0 ≤ x8_3) = true := decide_eq_true c15
                                clear c15
                                have H' := Aside0.mk H
                                clear H
                                have p344 : 0 ≤ (x7_2 : Int) := of_decide_eq_true (by first | (with_reducible assumption) | assumption)
                                have q344 : x7_2 < (l0.length : Int) := of_decide_eq_true (by first | (with_reducible assumption) | assumption)
                                obtain ⟨ad344, e344, hx344_0⟩ := Kd.at_string HR0.out x7_2 p344 q344
                                obtain rfl : ad343 = ad344 := (by injection e344)
                                replace hx344_0 := (HB.out.cell (World.block_lt_of_cell? w _ hx344_0)).trans hx344_0
                                replace p344 := eq_true p344
                                replace q344 := eq_true q344
                                have p345 : 0 ≤ (x7_2 : Int) := of_decide_eq_true (by first | (with_reducible assumption) | assumption)
                                have q345 : x7_2 < (l0.length : Int) := of_decide_eq_true (by first | (with_reducible assumption) | assumption)
                                obtain ⟨ad345, e345, hx345_0⟩ := Kd.at_string HR0.out x7_2 p345 q345
                                obtain rfl : ad343 = ad345 := (by injection e345)
                                replace hx345_0 := (HB.out.cell (World.block_lt_of_cell? w _ hx345_0)).trans hx345_0
                                replace p345 := eq_true p345
                                replace q345 := eq_true q345
                                have p16 : 0 ≤ (x8_3 : Int) := of_decide_eq_true (by first | (with_reducible assumption) | assumption)
                                have q16 : x8_3 < ((rdOf ByteArray.empty l0 x7_2).size : Int) := of_decide_eq_true (by first | (with_reducible assumption) | assumption)
                                have hx16 := bt_at (rdOf ByteArray.empty l0 x7_2) x8_3
                                replace p16 := eq_true p16
                                replace q16 := eq_true q16
                                go_wp2
                                go_roundg k3
                                case measure => have := HJ3.out; have := HK2.out; have := HK3.out; omega
                                case rel => exact ⟨(((bt (rdOf ByteArray.empty l0 x7_2) x8_3) != 10)), (wrap64 (x8_3 + 1)), (by first | rfl | (simp; done) | (simp [*]; done)), (by first | rfl | (simp; done) | (simp [*]; done)), H', ⟨by have := HJ3.out; have := HK2.out; have := HK3.out; omega⟩, ⟨by repeat (first | (with_reducible first | exact HB.out | apply below_alloc | apply pw_below_drewN | apply below_drew1) | exact HB.out)⟩⟩
                              · rw [if_neg c15] at H
                                exact absurd H (by simp)
                            · replace c14 := Bool.eq_false_iff.mpr c14
                              subst c14
                              have H1 : (erratalaw02_TextLines.l1 k3 l0 a1 t342 false x7_2 (wrap64 (x8_3 + 1))) = some r := by rw [if_neg (show ¬ (false = true) by decide)] at H; exact H
                              clear H
                              have H := H1
                              clear H1
                              have H' := Aside0.mk H
                              clear H
                              have p344 : 0 ≤ (x7_2 : Int) := of_decide_eq_true (by first | (with_reducible assumption) | assumption)
                              have q344 : x7_2 < (l0.length : Int) := of_decide_eq_true (by first | (with_reducible assumption) | assumption)
                              obtain ⟨ad344, e344, hx344_0⟩ := Kd.at_string HR0.out x7_2 p344 q344
                              obtain rfl : ad343 = ad344 := (by injection e344)
                              replace hx344_0 := (HB.out.cell (World.block_lt_of_cell? w _ hx344_0)).trans hx344_0
                              replace p344 := eq_true p344
                              replace q344 := eq_true q344
                              go_wp2
                              go_roundg k3
                              case measure => have := HJ3.out; have := HK2.out; have := HK3.out; omega
                              case rel => exact ⟨(false), (wrap64 (x8_3 + 1)), (by first | rfl | (simp; done) | (simp [*]; done)), (by first | rfl | (simp; done) | (simp [*]; done)), H', ⟨by have := HJ3.out; have := HK2.out; have := HK3.out; omega⟩, ⟨by repeat (first | (with_reducible first | exact HB.out | apply below_alloc | apply pw_below_drewN | apply below_drew1) | exact HB.out)⟩⟩
                          · rw [if_neg c13] at H
                            have c13b0 : decide (x8_3 < ((rdOf ByteArray.empty l0 x7_2).size : Int)) = false := decide_eq_false c13
                            clear c13
                            have H' := Aside0.mk H
                            clear H
                            have p344 : 0 ≤ (x7_2 : Int) := of_decide_eq_true (by first | (with_reducible assumption) | assumption)
                            have q344 : x7_2 < (l0.length : Int) := of_decide_eq_true (by first | (with_reducible assumption) | assumption)
                            obtain ⟨ad344, e344, hx344_0⟩ := Kd.at_string HR0.out x7_2 p344 q344
                            obtain rfl : ad343 = ad344 := (by injection e344)
                            replace hx344_0 := (HB.out.cell (World.block_lt_of_cell? w _ hx344_0)).trans hx344_0
                            replace p344 := eq_true p344
                            replace q344 := eq_true q344
                            go_wp2
                            go_roundg k3
                            case measure => have := HJ3.out; have := HK2.out; have := HK3.out; omega
                            case rel => exact ⟨(x6_3), (wrap64 (x7_2 + 1)), (by first | rfl | (simp; done) | (simp [*]; done)), (by first | rfl | (simp; done) | (simp [*]; done)), H', ⟨by have := HJ3.out; have := HK2.out; have := HK3.out; omega⟩, ⟨by repeat (first | (with_reducible first | exact HB.out | apply below_alloc | apply pw_below_drewN | apply below_drew1) | exact HB.out)⟩⟩
                        · rw [if_neg c12] at H
                          exact absurd H (by simp)
                      · rw [if_neg c11] at H
                        exact absurd H (by simp)
              · rw [if_neg c9] at H
                exact absurd H (by simp)
            · rw [if_neg c8] at H
              have c8b0 : decide (x7_2 < (l0.length : Int)) = false := decide_eq_false c8
              clear c8
              have HC17 := Aside0.mk H
              clear H
              go_upto_region 14 with (fail)
              go_cut [67] (fun v67 wc => ∃ (kq : Nat) (x67_16 : Bool), v67 = .bool x67_16 ∧ Aside0 (erratalaw02_TextLines.j3 kq a1 t342 x67_16 = some r) ∧ Aside0 (kq ≤ k2) ∧ Aside0 (Below w.heap.size w wc))
              case first =>
                have H := HC17.out
                clear HC17
                by_cases c18 : x6_2 = true
                · subst c18
                  have H1 : ((text_Unlines.f l0).bind fun t346 => ((text_Lines.f t346).bind fun t347 => ((errataref02_Same.f k2 t347 l0).bind fun t350 => (erratalaw02_TextLines.j3 k2 a1 t342 (!t350))))) = some r := by rw [if_pos rfl] at H; exact H
                  clear H
                  have H := H1
                  clear H1
                  replace H := Option.bind_eq_some_iff.mp H
                  obtain ⟨t346, A190, H⟩ := H
                  replace H : ((text_Lines.f t346).bind fun t347 => ((errataref02_Same.f k2 t347 l0).bind fun t350 => (erratalaw02_TextLines.j3 k2 a1 t342 (!t350)))) = some r := H
                  have A19 := Aside0.mk A190
                  clear A190
                  replace H := Option.bind_eq_some_iff.mp H
                  obtain ⟨t347, A200, H⟩ := H
                  replace H : ((errataref02_Same.f k2 t347 l0).bind fun t350 => (erratalaw02_TextLines.j3 k2 a1 t342 (!t350))) = some r := H
                  have A20 := Aside0.mk A200
                  clear A200
                  replace H := Option.bind_eq_some_iff.mp H
                  obtain ⟨t350, A210, H⟩ := H
                  replace H : (erratalaw02_TextLines.j3 k2 a1 t342 (!t350)) = some r := H
                  have A21 := Aside0.mk A210
                  clear A210
                  have H' := Aside0.mk H
                  clear H
                  go_wp2_with (first | (go_at_call 16; (with_reducible refine (text_Unlines.calls _ _ l0 t346 _ ?side1 ?side2 A19.out).mono ?_); (case side1 => repeat (first | exact (Kd.C_below HR0.out HB.out) | (with_reducible refine Kd.C_alloc ?_ _) | (with_reducible refine Kd.C_drewN ?_ _) | (with_reducible refine Kd.C_drew ?_))); (case side2 => exact HC0.out); rintro e w22 ⟨rfl, hb⟩; have n0_ := Aside0.mk (below_step (by repeat (first | (with_reducible first | exact HB.out | apply below_alloc | apply pw_below_drewN | apply below_drew1) | exact HB.out)) hb); clear HB; have HB := n0_; clear n0_; (try clear hb); (try clear hb2); (try clear hk); (try clear hi)) | (go_at_call 15; (with_reducible refine (text_Lines.calls t346 t347 _ ?side1 A20.out).mono ?_); (case side1 => exact envB HE.out (by repeat (first | (with_reducible first | exact HB.out | apply below_alloc | apply pw_below_drewN | apply below_drew1) | exact HB.out))); rintro e w23 ⟨v348, rfl, ho0, hb⟩; have n0_ := Aside0.mk (Kd.R_lower ho0 (below_size (by repeat (first | (with_reducible first | exact HB.out | apply below_alloc | apply pw_below_drewN | apply below_drew1) | exact HB.out)))); have n1_ := Aside0.mk (below_step (by repeat (first | (with_reducible first | exact HB.out | apply below_alloc | apply pw_below_drewN | apply below_drew1) | exact HB.out)) hb); clear HB; have HO349 := n0_; have HB := n1_; clear n0_ n1_; (try clear hb); (try clear hb2); (try clear hk); (try clear hi); (try clear ho0); obtain ⟨Ao24, co24, eo24⟩ := Kd.R_slice HO349.out; subst eo24) | (go_at_call 14; (with_reducible refine (errataref02_Same.calls k2 _ _ t347 _ _ l0 t350 _ ?side1 ?side2 ?side3 ?side4 A21.out).mono ?_); (case side1 => repeat (first | exact (Kd.R_reads' HO349.out).2.2 | (with_reducible refine Kd.C_alloc ?_ _) | (with_reducible refine Kd.C_drewN ?_ _) | (with_reducible refine Kd.C_drew ?_))); (case side2 => exact (Kd.R_reads' HO349.out).2.1); (case side3 => repeat (first | exact (Kd.C_below HR0.out HB.out) | (with_reducible refine Kd.C_alloc ?_ _) | (with_reducible refine Kd.C_drewN ?_ _) | (with_reducible refine Kd.C_drew ?_))); (case side4 => exact HC0.out); rintro e w' ⟨rfl, ⟨nd, rfl⟩⟩))
                  go_meet
                  case rel => exact ⟨_, (!t350), (by first | rfl | (simp; done) | (simp [*]; done)), H', ⟨by have := HJ3.out; have := HK2.out; first | omega | exact Nat.le_refl _⟩, ⟨by repeat (first | (with_reducible first | exact HB.out | apply below_alloc | apply pw_below_drewN | apply below_drew1) | exact HB.out)⟩⟩
                · replace c18 := Bool.eq_false_iff.mpr c18
                  subst c18
                  have H1 : (erratalaw02_TextLines.j3 k2 a1 t342 false) = some r := by rw [if_neg (show ¬ (false = true) by decide)] at H; exact H
                  clear H
                  have H := H1
                  clear H1
                  have H' := Aside0.mk H
                  clear H
                  go_wp2
                  go_meet
                  case rel => exact ⟨_, (false), (by first | rfl | (simp; done) | (simp [*]; done)), H', ⟨by have := HJ3.out; have := HK2.out; first | omega | exact Nat.le_refl _⟩, ⟨by repeat (first | (with_reducible first | exact HB.out | apply below_alloc | apply pw_below_drewN | apply below_drew1) | exact HB.out)⟩⟩
              case rest =>
                clear HC17
                try clear c1
                try clear p1
                try clear q1
                try clear hx1
                try clear p2
                try clear c3
                try clear p3
                try clear q3
                try clear hx3
                try clear c6
                try clear c6b0
                try clear c6b1
                try clear p6
                try clear c7
                try clear c8
                try clear c8b0
                try clear c9
                try clear c9b0
                try clear c10
                try clear c10b0
                try clear c10b1
                try clear c11
                try clear c11b0
                try clear c12
                try clear c12b0
                try clear c13
                try clear c13b0
                try clear c14
                try clear c15
                try clear c15b0
                try clear p16
                try clear q16
                try clear hx16
                try clear c18
                try clear hx343_0
                try clear hx344_0
                try clear hx345_0
                try clear p16
                try clear p2
                try clear p3
                try clear p343
                try clear p344
                try clear p345
                try clear q16
                try clear q3
                try clear q343
                try clear q344
                try clear q345
                obtain ⟨kq, x67_16, rfl, HA, HJ16, HB⟩ := hcut
                cases kq with
                | zero => exact absurd HA.out (by simp [erratalaw02_TextLines.j3])
                | succ kj16 =>
                  have H := HA.out
                  clear HA
                  simp only [erratalaw02_TextLines.j3] at H
                  by_cases c25 : x67_16 = true
                  · subst c25
                    have H1 : (some false) = some r := by rw [if_pos rfl] at H; exact H
                    clear H
                    have H := H1
                    clear H1
                    obtain rfl := Option.some.inj H
                    go_wp2
                    go_ret
                    exact ⟨by first | rfl | (simp [errW_none, errW_some] <;> rfl) | (simp [*, errW_none, errW_some] <;> rfl), by repeat (first | (with_reducible first | exact HB.out | apply below_alloc | apply pw_below_drewN | apply below_drew1) | exact HB.out)⟩
                  · replace c25 := Bool.eq_false_iff.mpr c25
                    subst c25
                    have H1 : ((text_Lines.f a1).bind fun t351 => (if a1.toList = ([] : List UInt8) then (erratalaw02_TextLines.j4 kj16 a1 t342 t351 a1 false) else (if 0 ≤ (wrap64 ((a1.size : Int) - 1)) then (if (wrap64 ((a1.size : Int) - 1)) < (a1.size : Int) then (erratalaw02_TextLines.j4 kj16 a1 t342 t351 a1 ((bt a1 (wrap64 ((a1.size : Int) - 1))) != 10)) else (none)) else (none)))) = some r := by rw [if_neg (show ¬ (false = true) by decide)] at H; exact H
                    clear H
                    have H := H1
                    clear H1
                    replace H := Option.bind_eq_some_iff.mp H
                    obtain ⟨t351, A260, H⟩ := H
                    replace H : (if a1.toList = ([] : List UInt8) then (erratalaw02_TextLines.j4 kj16 a1 t342 t351 a1 false) else (if 0 ≤ (wrap64 ((a1.size : Int) - 1)) then (if (wrap64 ((a1.size : Int) - 1)) < (a1.size : Int) then (erratalaw02_TextLines.j4 kj16 a1 t342 t351 a1 ((bt a1 (wrap64 ((a1.size : Int) - 1))) != 10)) else (none)) else (none))) = some r := H
                    have A26 := Aside0.mk A260
                    clear A260
                    have HC27 := Aside0.mk H
                    clear H
                    go_upto_region 18 with (first | ((with_reducible refine gate_callee (f := 15) rfl ?_); refine goesL_ (some 69) rfl rfl Tryd.func15 (by kernel_rfl) rfl #[.string a1] rfl (by (try simp only [List.map_toArray, List.map_cons, List.map_nil]); first | done | rfl | (simp only [List.length_drop, List.length_take]; rfl)) ?_; (with_reducible refine (text_Lines.calls a1 t351 _ ?side1 A26.out).mono ?_); (case side1 => exact envB HE.out (by repeat (first | (with_reducible first | exact HB.out | apply below_alloc | apply pw_below_drewN | apply below_drew1) | exact HB.out))); rintro e w28 ⟨v352, rfl, ho0, hb⟩; refine ⟨_, rfl, ?_⟩; have n0_ := Aside0.mk (Kd.R_lower ho0 (below_size (by repeat (first | (with_reducible first | exact HB.out | apply below_alloc | apply pw_below_drewN | apply below_drew1) | exact HB.out)))); have n1_ := Aside0.mk (below_step (by repeat (first | (with_reducible first | exact HB.out | apply below_alloc | apply pw_below_drewN | apply below_drew1) | exact HB.out)) hb); clear HB; have HO353 := n0_; have HB := n1_; clear n0_ n1_; (try clear hb); (try clear hb2); (try clear hk); (try clear hi); (try clear ho0)))
                    (try simp only [Act.put, List.setIfInBounds_toArray, List.set_cons_zero, List.set_cons_succ])
                    go_cut [80] (fun v80 wc => ∃ (kq : Nat) (x80_26 : Bool), v80 = .bool x80_26 ∧ Aside0 (erratalaw02_TextLines.j4 kq a1 t342 t351 a1 x80_26 = some r) ∧ Aside0 (kq ≤ kj16) ∧ Aside0 (Kd.R Kd.string 9 wc w.heap.size (fun _ => True) v352 t351) ∧ Aside0 (Below w.heap.size w wc))
                    case first =>
                      have H := HC27.out
                      clear HC27
                      by_cases c29 : a1.toList = ([] : List UInt8)
                      · rw [if_pos c29] at H
                        have c29b0 : (a1.toList == ([] : List UInt8)) = true := beq_iff_eq.mpr c29
                        have c29b1 : (a1.toList != ([] : List UInt8)) = false := bne_eq_false_iff_eq.mpr c29
                        clear c29
                        (first | rw [c29b0] | (simp only [i64_w, i32_w]; rw [c29b0]) | skip)
                        have H' := Aside0.mk H
                        clear H
                        go_wp2
                        go_meet
                        case rel => exact ⟨_, (false), (by first | rfl | (simp; done) | (simp [*]; done)), H', ⟨by have := HJ3.out; have := HK2.out; have := HJ16.out; first | omega | exact Nat.le_refl _⟩, ⟨by (with_reducible repeat (first | apply Kd.R_alloc | apply Kd.R_drewN | apply Kd.R_drew)); exact HO353.out⟩, ⟨by repeat (first | (with_reducible first | exact HB.out | apply below_alloc | apply pw_below_drewN | apply below_drew1) | exact HB.out)⟩⟩
                      · rw [if_neg c29] at H
                        have c29b0 : (a1.toList == ([] : List UInt8)) = false := beq_eq_false_iff_ne.mpr c29
                        have c29b1 : (a1.toList != ([] : List UInt8)) = true := bne_iff_ne.mpr c29
                        (first | rw [c29b0] | (simp only [i64_w, i32_w]; rw [c29b0]) | skip)
                        obtain ⟨ji30, hji30⟩ : ∃ j_ : Int, (wrap64 ((a1.size : Int) - 1)) = j_ := ⟨_, rfl⟩
                        replace H : (if 0 ≤ (ji30) then (if (ji30) < (a1.size : Int) then (erratalaw02_TextLines.j4 kj16 a1 t342 t351 a1 ((bt a1 (ji30)) != 10)) else (none)) else (none)) = some r := by first | (rw [hji30] at H; exact H) | (simp only [hji30] at H ⊢; exact H)
                        have hji30w : (IntKind.i64.wrap ((a1.size : Int) - 1)) = ji30 := (i64_w _).trans hji30
                        by_cases c31 : 0 ≤ (ji30)
                        · rw [if_pos c31] at H
                          have c31b0 : decide (0 ≤ (ji30)) = true := decide_eq_true c31
                          clear c31
                          by_cases c32 : (ji30) < (a1.size : Int)
                          · rw [if_pos c32] at H
                            have c32b0 : decide ((ji30) < (a1.size : Int)) = true := decide_eq_true c32
                            clear c32
                            have H' := Aside0.mk H
                            clear H
                            have p33 : 0 ≤ ((ji30) : Int) := of_decide_eq_true (by first | (with_reducible assumption) | assumption)
                            have q33 : (ji30) < (a1.size : Int) := of_decide_eq_true (by first | (with_reducible assumption) | assumption)
                            have hx33 := bt_at a1 (ji30)
                            replace p33 := eq_true p33
                            replace q33 := eq_true q33
                            go_wp2
                            go_meet
                            case rel => exact ⟨_, (((bt a1 (ji30)) != 10)), (by first | rfl | (simp; done) | (simp only [← hji30] <;> (first | rfl | simp)) | (simp [*]; done)), (by first | exact H' | (simp only [hji30]; exact H') | (simp only [hji30]; exact H')), ⟨by have := HJ3.out; have := HK2.out; have := HJ16.out; first | omega | exact Nat.le_refl _⟩, ⟨by (with_reducible repeat (first | apply Kd.R_alloc | apply Kd.R_drewN | apply Kd.R_drew)); exact HO353.out⟩, ⟨by repeat (first | (with_reducible first | exact HB.out | apply below_alloc | apply pw_below_drewN | apply below_drew1) | exact HB.out)⟩⟩
                          · rw [if_neg c32] at H
                            exact absurd H (by simp)
                        · rw [if_neg c31] at H
                          exact absurd H (by simp)
                    case rest =>
                      clear HC27
                      try clear c1
                      try clear p1
                      try clear q1
                      try clear hx1
                      try clear c2
                      try clear p2
                      try clear c3
                      try clear p3
                      try clear q3
                      try clear hx3
                      try clear c6
                      try clear c6b0
                      try clear c6b1
                      try clear p6
                      try clear c7
                      try clear c8
                      try clear c8b0
                      try clear c9
                      try clear c9b0
                      try clear c10
                      try clear c10b0
                      try clear c10b1
                      try clear c11
                      try clear c11b0
                      try clear c12
                      try clear c12b0
                      try clear c13
                      try clear c13b0
                      try clear c14
                      try clear c15
                      try clear c15b0
                      try clear p16
                      try clear q16
                      try clear hx16
                      try clear c18
                      try clear c25
                      try clear c29
                      try clear c29b0
                      try clear c29b1
                      try clear c31
                      try clear c31b0
                      try clear c32
                      try clear c32b0
                      try clear p33
                      try clear q33
                      try clear hx33
                      try clear hx343_0
                      try clear hx344_0
                      try clear hx345_0
                      try clear p1
                      try clear p16
                      try clear p2
                      try clear p3
                      try clear p33
                      try clear p343
                      try clear p344
                      try clear p345
                      try clear p6
                      try clear q1
                      try clear q16
                      try clear q3
                      try clear q33
                      try clear q343
                      try clear q344
                      try clear q345
                      obtain ⟨kq, x80_26, rfl, HA, HJ26, HO_9, HB⟩ := hcut
                      cases kq with
                      | zero => exact absurd HA.out (by simp [erratalaw02_TextLines.j4])
                      | succ kj26 =>
                        have H := HA.out
                        clear HA
                        simp only [erratalaw02_TextLines.j4] at H
                        have HC34 := Aside0.mk H
                        clear H
                        go_upto_if 80 with (fail)
                        go_cut [10] (fun v10 wc => ∃ (kq : Nat) (x10_33 : ByteArray), v10 = .string x10_33 ∧ Aside0 (erratalaw02_TextLines.j5 kq a1 t342 t351 x10_33 = some r) ∧ Aside0 (kq ≤ kj26) ∧ Aside0 (Kd.R Kd.string 9 wc w.heap.size (fun _ => True) v352 t351) ∧ Aside0 (Below w.heap.size w wc))
                        case first =>
                          have H := HC34.out
                          clear HC34
                          by_cases c35 : x80_26 = true
                          · subst c35
                            have H1 : (if a1.size + 1 ≤ 9223372036854775807 then (erratalaw02_TextLines.j5 kj26 a1 t342 t351 (a1 ++ (⟨#[10]⟩ : ByteArray))) else (none)) = some r := by rw [if_pos rfl] at H; exact H
                            clear H
                            have H := H1
                            clear H1
                            by_cases c36 : a1.size + 1 ≤ 9223372036854775807
                            · rw [if_pos c36] at H
                              have c36b0 := eq_true c36
                              have c36b1 : decide (a1.size + 1 ≤ 9223372036854775807) = true := decide_eq_true c36
                              try have c36b2 : (9223372036854775807 < a1.size + 1) = False := eq_false (Nat.not_lt.2 c36)
                              have H' := Aside0.mk H
                              clear H
                              go_wp2
                              go_meet
                              case rel => exact ⟨_, (a1 ++ (⟨#[10]⟩ : ByteArray)), (by first | rfl | (simp; done) | (simp [*]; done)), H', ⟨by have := HJ3.out; have := HK2.out; have := HJ16.out; have := HJ26.out; first | omega | exact Nat.le_refl _⟩, ⟨by (with_reducible repeat (first | apply Kd.R_alloc | apply Kd.R_drewN | apply Kd.R_drew)); exact HO_9.out⟩, ⟨by repeat (first | (with_reducible first | exact HB.out | apply below_alloc | apply pw_below_drewN | apply below_drew1) | exact HB.out)⟩⟩
                            · rw [if_neg c36] at H
                              exact absurd H (by simp)
                          · replace c35 := Bool.eq_false_iff.mpr c35
                            subst c35
                            have H1 : (erratalaw02_TextLines.j5 kj26 a1 t342 t351 a1) = some r := by rw [if_neg (show ¬ (false = true) by decide)] at H; exact H
                            clear H
                            have H := H1
                            clear H1
                            have H' := Aside0.mk H
                            clear H
                            go_wp2
                            go_meet
                            case rel => exact ⟨_, (a1), (by first | rfl | (simp; done) | (simp [*]; done)), H', ⟨by have := HJ3.out; have := HK2.out; have := HJ16.out; have := HJ26.out; first | omega | exact Nat.le_refl _⟩, ⟨by (with_reducible repeat (first | apply Kd.R_alloc | apply Kd.R_drewN | apply Kd.R_drew)); exact HO_9.out⟩, ⟨by repeat (first | (with_reducible first | exact HB.out | apply below_alloc | apply pw_below_drewN | apply below_drew1) | exact HB.out)⟩⟩
                        case rest =>
                          clear HC34
                          try clear c1
                          try clear p1
                          try clear q1
                          try clear hx1
                          try clear c2
                          try clear p2
                          try clear c3
                          try clear p3
                          try clear q3
                          try clear hx3
                          try clear c6
                          try clear c6b0
                          try clear c6b1
                          try clear p6
                          try clear c7
                          try clear c8
                          try clear c8b0
                          try clear c9
                          try clear c9b0
                          try clear c10
                          try clear c10b0
                          try clear c10b1
                          try clear c11
                          try clear c11b0
                          try clear c12
                          try clear c12b0
                          try clear c13
                          try clear c13b0
                          try clear c14
                          try clear c15
                          try clear c15b0
                          try clear p16
                          try clear q16
                          try clear hx16
                          try clear c18
                          try clear c25
                          try clear c29
                          try clear c29b0
                          try clear c29b1
                          try clear c31
                          try clear c31b0
                          try clear c32
                          try clear c32b0
                          try clear p33
                          try clear q33
                          try clear hx33
                          try clear p34
                          try clear q34
                          try clear hx34
                          try clear c35
                          try clear c36
                          try clear c36b0
                          try clear c36b1
                          try clear c36b2
                          try clear hx343_0
                          try clear hx344_0
                          try clear hx345_0
                          try clear p1
                          try clear p16
                          try clear p2
                          try clear p3
                          try clear p33
                          try clear p343
                          try clear p344
                          try clear p345
                          try clear p6
                          try clear q1
                          try clear q16
                          try clear q3
                          try clear q33
                          try clear q343
                          try clear q344
                          try clear q345
                          obtain ⟨kq, x10_33, rfl, HA, HJ33, HO_9, HB⟩ := hcut
                          cases kq with
                          | zero => exact absurd HA.out (by simp [erratalaw02_TextLines.j5])
                          | succ kj33 =>
                            have H := HA.out
                            clear HA
                            simp only [erratalaw02_TextLines.j5] at H
                            have H' := Aside0.mk H
                            clear H
                            go_wp2
                            go_loopg [11, 12] kj33 (fun kq v11 v12 w' => ∃ (x11_6 : List ByteArray) (x12_6 : Int), v12 = .int .i64 x12_6 ∧ Aside0 (erratalaw02_TextLines.l2 kq a1 t342 t351 x10_33 x11_6 x12_6 = some r) ∧ Aside0 (kq ≤ kj33) ∧ Aside0 (Kd.R Kd.string 9 w' w.heap.size (fun k_ => some k_ ≠ (v11 : Value).ownBlock) v352 t351) ∧ Aside0 (Kd.R Kd.string 9 w' w.heap.size (fun k_ => some k_ ≠ (v352 : Value).ownBlock) v11 x11_6) ∧ Aside0 (Below w.heap.size w w'))
                            case atStart => exact ⟨(([] : List ByteArray)), (0), (by first | rfl | (simp; done) | (simp [*]; done)), H', ⟨Nat.le_refl _⟩, ⟨by (with_reducible repeat (first | apply Kd.R_alloc | apply Kd.R_drewN | apply Kd.R_drew)); exact Kd.R_mono HO_9.out (fun _ hk => (by simp [Value.ownBlock]))⟩, ⟨by first | exact Kd.R_nil _ _ _ _ _ | exact Kd.N_nil _ _ _ _ _ | exact Kd.V_nil _ _ _ _ _ | exact Kd.Q_nil _ _ _ _ _ | exact Kd.S_nil _ _ _ _ _⟩, ⟨by repeat (first | (with_reducible first | exact HB.out | apply below_alloc | apply pw_below_drewN | apply below_drew1) | exact HB.out)⟩⟩
                            case round =>
                              clear H'
                              try clear c1
                              try clear p1
                              try clear q1
                              try clear hx1
                              try clear c2
                              try clear p2
                              try clear c3
                              try clear p3
                              try clear q3
                              try clear hx3
                              try clear c6
                              try clear c6b0
                              try clear c6b1
                              try clear p6
                              try clear c7
                              try clear c8
                              try clear c8b0
                              try clear c9
                              try clear c9b0
                              try clear c10
                              try clear c10b0
                              try clear c10b1
                              try clear c11
                              try clear c11b0
                              try clear c12
                              try clear c12b0
                              try clear c13
                              try clear c13b0
                              try clear c14
                              try clear c15
                              try clear c15b0
                              try clear p16
                              try clear q16
                              try clear hx16
                              try clear c18
                              try clear c25
                              try clear c29
                              try clear c29b0
                              try clear c29b1
                              try clear c31
                              try clear c31b0
                              try clear c32
                              try clear c32b0
                              try clear p33
                              try clear q33
                              try clear hx33
                              try clear p34
                              try clear q34
                              try clear hx34
                              try clear c35
                              try clear c36
                              try clear c36b0
                              try clear c36b1
                              try clear c36b2
                              try clear hx343_0
                              try clear hx344_0
                              try clear hx345_0
                              try clear p1
                              try clear p16
                              try clear p2
                              try clear p3
                              try clear p33
                              try clear p34
                              try clear p343
                              try clear p344
                              try clear p345
                              try clear p6
                              try clear q1
                              try clear q16
                              try clear q3
                              try clear q33
                              try clear q34
                              try clear q343
                              try clear q344
                              try clear q345
                              obtain ⟨x11_6, x12_6, rfl, HA, HK6, HO_9, HO_11, HB⟩ := hrel
                              cases gk with
                              | zero => exact absurd HA.out (by simp [erratalaw02_TextLines.l2])
                              | succ k6 =>
                                have H := HA.out
                                clear HA
                                simp only [erratalaw02_TextLines.l2] at H
                                by_cases c37 : x12_6 < (t351.length : Int)
                                · rw [if_pos c37] at H
                                  have c37b0 : decide (x12_6 < (t351.length : Int)) = true := decide_eq_true c37
                                  clear c37
                                  have H' := Aside0.mk H
                                  clear H
                                  obtain ⟨Ao38, co38, eo38⟩ := Kd.R_slice HO_9.out
                                  subst eo38
                                  go_wp2
                                  go_loopg [13] k6 (fun kq v13 w' => ∃ (x13_7 : Int), v13 = .int .i64 x13_7 ∧ Aside0 (erratalaw02_TextLines.l3 kq a1 t342 t351 x10_33 x11_6 x12_6 x13_7 = some r) ∧ Aside0 (kq ≤ k6) ∧ Aside0 (Kd.R Kd.string 9 w' w.heap.size (fun k_ => some k_ ≠ (u11 : Value).ownBlock) (.slice Ao38 t351.length co38) t351) ∧ Aside0 (Kd.R Kd.string 9 w' w.heap.size (fun k_ => some k_ ≠ ((.slice Ao38 t351.length co38) : Value).ownBlock) u11 x11_6) ∧ Aside0 (Below w.heap.size w w'))
                                  case atStart => exact ⟨(0), (by first | rfl | (simp; done) | (simp [*]; done)), H', ⟨Nat.le_refl _⟩, ⟨by (with_reducible repeat (first | apply Kd.R_alloc | apply Kd.R_drewN | apply Kd.R_drew)); exact HO_9.out⟩, ⟨by (with_reducible repeat (first | apply Kd.R_alloc | apply Kd.R_drewN | apply Kd.R_drew)); exact HO_11.out⟩, ⟨by repeat (first | (with_reducible first | exact HB.out | apply below_alloc | apply pw_below_drewN | apply below_drew1) | exact HB.out)⟩⟩
                                  case round =>
                                    clear H'
                                    try clear c1
                                    try clear p1
                                    try clear q1
                                    try clear hx1
                                    try clear c2
                                    try clear p2
                                    try clear c3
                                    try clear p3
                                    try clear q3
                                    try clear hx3
                                    try clear c6
                                    try clear c6b0
                                    try clear c6b1
                                    try clear p6
                                    try clear c7
                                    try clear c8
                                    try clear c8b0
                                    try clear c9
                                    try clear c9b0
                                    try clear c10
                                    try clear c10b0
                                    try clear c10b1
                                    try clear c11
                                    try clear c11b0
                                    try clear c12
                                    try clear c12b0
                                    try clear c13
                                    try clear c13b0
                                    try clear c14
                                    try clear c15
                                    try clear c15b0
                                    try clear p16
                                    try clear q16
                                    try clear hx16
                                    try clear c18
                                    try clear c25
                                    try clear c29
                                    try clear c29b0
                                    try clear c29b1
                                    try clear c31
                                    try clear c31b0
                                    try clear c32
                                    try clear c32b0
                                    try clear p33
                                    try clear q33
                                    try clear hx33
                                    try clear p34
                                    try clear q34
                                    try clear hx34
                                    try clear c35
                                    try clear c36
                                    try clear c36b0
                                    try clear c36b1
                                    try clear c36b2
                                    try clear c37
                                    try clear c37b0
                                    try clear hx343_0
                                    try clear hx344_0
                                    try clear hx345_0
                                    try clear p1
                                    try clear p16
                                    try clear p2
                                    try clear p3
                                    try clear p33
                                    try clear p34
                                    try clear p343
                                    try clear p344
                                    try clear p345
                                    try clear p6
                                    try clear q1
                                    try clear q16
                                    try clear q3
                                    try clear q33
                                    try clear q34
                                    try clear q343
                                    try clear q344
                                    try clear q345
                                    obtain ⟨x13_7, rfl, HA, HK7, HO_9, HO_11, HB⟩ := hrel
                                    cases gk with
                                    | zero => exact absurd HA.out (by simp [erratalaw02_TextLines.l3])
                                    | succ k7 =>
                                      have H := HA.out
                                      clear HA
                                      simp only [erratalaw02_TextLines.l3] at H
                                      by_cases c39 : 0 ≤ x12_6
                                      · rw [if_pos c39] at H
                                        have c39b0 : decide (0 ≤ x12_6) = true := decide_eq_true c39
                                        clear c39
                                        by_cases c40 : x12_6 < (t351.length : Int)
                                        · rw [if_pos c40] at H
                                          have c40b0 : decide (x12_6 < (t351.length : Int)) = true := decide_eq_true c40
                                          clear c40
                                          by_cases c41 : x13_7 < ((rdOf ByteArray.empty t351 x12_6).size : Int)
                                          · rw [if_pos c41] at H
                                            have c41b0 : decide (x13_7 < ((rdOf ByteArray.empty t351 x12_6).size : Int)) = true := decide_eq_true c41
                                            clear c41
                                            by_cases c42 : 0 ≤ x13_7
                                            · rw [if_pos c42] at H
                                              have c42b0 : decide (0 ≤ x13_7) = true := decide_eq_true c42
                                              clear c42
                                              by_cases c44 : (bt (rdOf ByteArray.empty t351 x12_6) x13_7) = 10
                                              · rw [if_pos c44] at H
                                                have c44b0 : ((bt (rdOf ByteArray.empty t351 x12_6) x13_7) == 10) = true := beq_iff_eq.mpr c44
                                                have c44b1 : ((bt (rdOf ByteArray.empty t351 x12_6) x13_7) != 10) = false := bne_eq_false_iff_eq.mpr c44
                                                clear c44
                                                obtain rfl := Option.some.inj H
                                                have p354 : 0 ≤ (x12_6 : Int) := of_decide_eq_true (by first | (with_reducible assumption) | assumption)
                                                have q354 : x12_6 < (t351.length : Int) := of_decide_eq_true (by first | (with_reducible assumption) | assumption)
                                                obtain ⟨ad354, e354, hx354_0⟩ := Kd.at_string (Kd.R_reads' HO_9.out).2.2 x12_6 p354 q354
                                                cases e354
                                                replace p354 := eq_true p354
                                                replace q354 := eq_true q354
                                                have p355 : 0 ≤ (x12_6 : Int) := of_decide_eq_true (by first | (with_reducible assumption) | assumption)
                                                have q355 : x12_6 < (t351.length : Int) := of_decide_eq_true (by first | (with_reducible assumption) | assumption)
                                                obtain ⟨ad355, e355, hx355_0⟩ := Kd.at_string (Kd.R_reads' HO_9.out).2.2 x12_6 p355 q355
                                                obtain rfl : ad354 = ad355 := (by injection e355)
                                                replace p355 := eq_true p355
                                                replace q355 := eq_true q355
                                                have p43 : 0 ≤ (x13_7 : Int) := of_decide_eq_true (by first | (with_reducible assumption) | assumption)
                                                have q43 : x13_7 < ((rdOf ByteArray.empty t351 x12_6).size : Int) := of_decide_eq_true (by first | (with_reducible assumption) | assumption)
                                                have hx43 := bt_at (rdOf ByteArray.empty t351 x12_6) x13_7
                                                replace p43 := eq_true p43
                                                replace q43 := eq_true q43
                                                go_wp2
                                                go_ret
                                                exact ⟨by first | rfl | (simp [errW_none, errW_some] <;> rfl) | (simp [*, errW_none, errW_some] <;> rfl), by repeat (first | (with_reducible first | exact HB.out | apply below_alloc | apply pw_below_drewN | apply below_drew1) | exact HB.out)⟩
                                              · rw [if_neg c44] at H
                                                have c44b0 : ((bt (rdOf ByteArray.empty t351 x12_6) x13_7) == 10) = false := beq_eq_false_iff_ne.mpr c44
                                                have c44b1 : ((bt (rdOf ByteArray.empty t351 x12_6) x13_7) != 10) = true := bne_iff_ne.mpr c44
                                                have H' := Aside0.mk H
                                                clear H
                                                have p354 : 0 ≤ (x12_6 : Int) := of_decide_eq_true (by first | (with_reducible assumption) | assumption)
                                                have q354 : x12_6 < (t351.length : Int) := of_decide_eq_true (by first | (with_reducible assumption) | assumption)
                                                obtain ⟨ad354, e354, hx354_0⟩ := Kd.at_string (Kd.R_reads' HO_9.out).2.2 x12_6 p354 q354
                                                cases e354
                                                replace p354 := eq_true p354
                                                replace q354 := eq_true q354
                                                have p355 : 0 ≤ (x12_6 : Int) := of_decide_eq_true (by first | (with_reducible assumption) | assumption)
                                                have q355 : x12_6 < (t351.length : Int) := of_decide_eq_true (by first | (with_reducible assumption) | assumption)
                                                obtain ⟨ad355, e355, hx355_0⟩ := Kd.at_string (Kd.R_reads' HO_9.out).2.2 x12_6 p355 q355
                                                obtain rfl : ad354 = ad355 := (by injection e355)
                                                replace p355 := eq_true p355
                                                replace q355 := eq_true q355
                                                have p43 : 0 ≤ (x13_7 : Int) := of_decide_eq_true (by first | (with_reducible assumption) | assumption)
                                                have q43 : x13_7 < ((rdOf ByteArray.empty t351 x12_6).size : Int) := of_decide_eq_true (by first | (with_reducible assumption) | assumption)
                                                have hx43 := bt_at (rdOf ByteArray.empty t351 x12_6) x13_7
                                                replace p43 := eq_true p43
                                                replace q43 := eq_true q43
                                                go_wp2
                                                go_roundg k7
                                                case measure => have := HJ3.out; have := HK2.out; have := HJ16.out; have := HJ26.out; have := HJ33.out; have := HK6.out; have := HK7.out; omega
                                                case rel => exact ⟨(wrap64 (x13_7 + 1)), (by first | rfl | (simp; done) | (simp [*]; done)), H', ⟨by have := HJ3.out; have := HK2.out; have := HJ16.out; have := HJ26.out; have := HJ33.out; have := HK6.out; have := HK7.out; omega⟩, ⟨by (with_reducible repeat (first | apply Kd.R_alloc | apply Kd.R_drewN | apply Kd.R_drew)); exact HO_9.out⟩, ⟨by (with_reducible repeat (first | apply Kd.R_alloc | apply Kd.R_drewN | apply Kd.R_drew)); exact HO_11.out⟩, ⟨by repeat (first | (with_reducible first | exact HB.out | apply below_alloc | apply pw_below_drewN | apply below_drew1) | exact HB.out)⟩⟩
                                            · rw [if_neg c42] at H
                                              exact absurd H (by simp)
                                          · rw [if_neg c41] at H
                                            have c41b0 : decide (x13_7 < ((rdOf ByteArray.empty t351 x12_6).size : Int)) = false := decide_eq_false c41
                                            clear c41
                                            replace H := Option.bind_eq_some_iff.mp H
                                            obtain ⟨t357, A450, H⟩ := H
                                            replace H : (if x11_6.length + t357.length < 8796093022208 then (erratalaw02_TextLines.l2 k7 a1 t342 t351 x10_33 (x11_6 ++ t357) (wrap64 (x12_6 + 1))) else (none)) = some r := H
                                            have A45 := Aside0.mk A450
                                            clear A450
                                            by_cases c46 : x11_6.length + t357.length < 8796093022208
                                            · rw [if_pos c46] at H
                                              have LMc46 := Aside0.mk c46
                                              clear c46
                                              obtain ⟨y360, hy360⟩ : ∃ y_ : List ByteArray, y_ = (x11_6 ++ t357) := ⟨_, rfl⟩
                                              replace H : (erratalaw02_TextLines.l2 k7 a1 t342 t351 x10_33 y360 (wrap64 (x12_6 + 1))) = some r := by first | (rw [hy360]; with_reducible exact H) | (have H2_ := (Option.bind_some _ _).symm.trans H; rw [hy360]; with_reducible exact H2_) | (have H2_ := (Option.bind_some _ _).symm.trans H; with_reducible exact H2_) | with_reducible exact H | (rw [hy360]; exact H) | exact H
                                              have Ny360 := Aside0.mk hy360
                                              clear hy360
                                              have H' := Aside0.mk H
                                              clear H
                                              have p354 : 0 ≤ (x12_6 : Int) := of_decide_eq_true (by first | (with_reducible assumption) | assumption)
                                              have q354 : x12_6 < (t351.length : Int) := of_decide_eq_true (by first | (with_reducible assumption) | assumption)
                                              obtain ⟨ad354, e354, hx354_0⟩ := Kd.at_string (Kd.R_reads' HO_9.out).2.2 x12_6 p354 q354
                                              cases e354
                                              replace p354 := eq_true p354
                                              replace q354 := eq_true q354
                                              have p356 : 0 ≤ (x12_6 : Int) := of_decide_eq_true (by first | (with_reducible assumption) | assumption)
                                              have q356 : x12_6 < (t351.length : Int) := of_decide_eq_true (by first | (with_reducible assumption) | assumption)
                                              obtain ⟨ad356, e356, hx356_0⟩ := Kd.at_string (Kd.R_reads' HO_9.out).2.2 x12_6 p356 q356
                                              obtain rfl : ad354 = ad356 := (by injection e356)
                                              replace p356 := eq_true p356
                                              replace q356 := eq_true q356
                                              go_wp2_with (first | ((with_reducible refine gate_callee (f := 17) rfl ?_); refine goesL_ (some 110) rfl rfl Tryd.func17 (by kernel_rfl) rfl #[.string (rdOf ByteArray.empty t351 x12_6)] rfl (by (try simp only [List.map_toArray, List.map_cons, List.map_nil]); first | done | rfl | (simp only [List.length_drop, List.length_take]; rfl)) ?_; (with_reducible refine (text_Fields.calls (rdOf ByteArray.empty t351 x12_6) t357 _ A45.out).mono ?_); rintro e w47 ⟨v358, rfl, ho0, hb⟩; refine ⟨_, rfl, ?_⟩; have n0_ := Aside0.mk (Kd.R_elder' (by (with_reducible repeat (first | apply Kd.R_alloc | apply Kd.R_drewN | apply Kd.R_drew)); exact HO_9.out) (Kd.R_base ho0) hb); have n1_ := Aside0.mk (Kd.R_elder' (by (with_reducible repeat (first | apply Kd.R_alloc | apply Kd.R_drewN | apply Kd.R_drew)); exact HO_11.out) (Kd.R_base ho0) hb); have n2_ := Aside0.mk (Kd.R_lower (Kd.R_new' (Kd.R_new' ho0 (Kd.R_lt (by (with_reducible repeat (first | apply Kd.R_alloc | apply Kd.R_drewN | apply Kd.R_drew)); exact HO_9.out))) (Kd.R_lt (by (with_reducible repeat (first | apply Kd.R_alloc | apply Kd.R_drewN | apply Kd.R_drew)); exact HO_11.out))) (below_size (by repeat (first | (with_reducible first | exact HB.out | apply below_alloc | apply pw_below_drewN | apply below_drew1) | exact HB.out)))); have n3_ := Aside0.mk (below_step (by repeat (first | (with_reducible first | exact HB.out | apply below_alloc | apply pw_below_drewN | apply below_drew1) | exact HB.out)) hb); clear HO_9; clear HO_11; clear HB; have HO_9 := n0_; have HO_11 := n1_; have HO359 := n2_; have HB := n3_; clear n0_ n1_ n2_ n3_; (try clear hb); (try clear hb2); (try clear hk); (try clear hi); (try clear ho0); obtain ⟨Ao49, co49, eo49⟩ := Kd.R_slice HO359.out; subst eo49) | ((with_reducible refine gate_builtin (b := .append) (xs := #[.tmp 105, .tmp 110]) rfl ?_); (try (refine gate_guard (by rfl) ?_; dsimp only)); at_builtin; refine Kd.R_append_rows Kd.string (w0 := w) w.heap.size rfl (.tmp 105) (.tmp 110) 22 9 (.string ⟨#[]⟩) 16 rfl Tryd.underlying22 info9 rfl (by decide) (by omega) u11 x11_6 t357 _ _ _ (fun k_ => some k_ ≠ (.slice (some ad354) t351.length co38 : Value).ownBlock ∧ some k_ ≠ (.slice Ao49 t357.length co49 : Value).ownBlock) (fun _ => False) rfl rfl ?aO ?aR (fun _ _ h => h) (fun _ h => h.elim) ?aF ?aB ?aS ?aL ?_; (case aR => repeat (first | exact (Kd.R_reads' HO359.out).2.2 | (with_reducible refine Kd.C_alloc ?_ _) | (with_reducible refine Kd.C_drewN ?_ _) | (with_reducible refine Kd.C_drew ?_))); (case aB => exact (by repeat (first | (with_reducible first | exact HB.out | apply below_alloc | apply pw_below_drewN | apply below_drew1) | exact HB.out))); (case aF => exact (fun k_ hk => ⟨Kd.fresh' (Kd.R_lt (by (with_reducible repeat (first | apply Kd.R_alloc | apply Kd.R_drewN | apply Kd.R_drew)); exact HO_9.out)) k_ hk, Kd.fresh' (Kd.R_lt (by (with_reducible repeat (first | apply Kd.R_alloc | apply Kd.R_drewN | apply Kd.R_drew)); exact HO359.out)) k_ hk⟩)); (case aO => exact (by (with_reducible repeat (first | apply Kd.R_alloc | apply Kd.R_drewN | apply Kd.R_drew)); exact HO_11.out)); (case aS => exact (below_size (by repeat (first | (with_reducible first | exact HB.out | apply below_alloc | apply pw_below_drewN | apply below_drew1) | exact HB.out)))); (case aL => have := LMc46.out; omega); intro v361 w48 ho hb hg hat; rw [← Ny360.out] at ho; have n0_ := Aside0.mk (Kd.R_after (ok := (fun k_ => some k_ ≠ (.slice Ao49 t357.length co49 : Value).ownBlock)) (by (with_reducible repeat (first | apply Kd.R_alloc | apply Kd.R_drewN | apply Kd.R_drew)); exact Kd.R_mono HO_9.out (fun _ hk => ⟨hk.2, hk.1⟩)) hg hat); have n1_ := Aside0.mk (Kd.R_after (ok := (fun k_ => some k_ ≠ (.slice (some ad354) t351.length co38 : Value).ownBlock)) (by (with_reducible repeat (first | apply Kd.R_alloc | apply Kd.R_drewN | apply Kd.R_drew)); exact Kd.R_mono HO359.out (fun _ hk => ⟨hk.1.2, hk.2⟩)) hg hat); have n2_ := Aside0.mk (hb); have n3_ := Aside0.mk (ho); clear HO_9; clear HO359; clear HB; clear HO_11; have HO_9 := n0_; have HO359 := n1_; have HB := n2_; have HO362 := n3_; clear n0_ n1_ n2_ n3_; clear ho hb hg hat))
                                              go_roundg k7
                                              case measure => have := HJ3.out; have := HK2.out; have := HJ16.out; have := HJ26.out; have := HJ33.out; have := HK6.out; have := HK7.out; omega
                                              case rel => exact ⟨(y360), (wrap64 (x12_6 + 1)), (by first | rfl | (simp; done) | (simp [*]; done)), H', ⟨by have := HJ3.out; have := HK2.out; have := HJ16.out; have := HJ26.out; have := HJ33.out; have := HK6.out; have := HK7.out; omega⟩, ⟨by (with_reducible repeat (first | apply Kd.R_alloc | apply Kd.R_drewN | apply Kd.R_drew)); exact Kd.R_mono HO_9.out (fun _ hk => hk.2)⟩, ⟨by (with_reducible repeat (first | apply Kd.R_alloc | apply Kd.R_drewN | apply Kd.R_drew)); exact Kd.R_mono HO362.out (fun _ hk => hk.1)⟩, ⟨by repeat (first | (with_reducible first | exact HB.out | apply below_alloc | apply pw_below_drewN | apply below_drew1) | exact HB.out)⟩⟩
                                            · rw [if_neg c46] at H
                                              exact absurd H (by simp)
                                        · rw [if_neg c40] at H
                                          exact absurd H (by simp)
                                      · rw [if_neg c39] at H
                                        exact absurd H (by simp)
                                · rw [if_neg c37] at H
                                  have c37b0 : decide (x12_6 < (t351.length : Int)) = false := decide_eq_false c37
                                  clear c37
                                  have H' := Aside0.mk H
                                  clear H
                                  obtain ⟨Ao50, co50, eo50⟩ := Kd.R_slice HO_9.out
                                  subst eo50
                                  go_wp2
                                  go_loopg [14] k6 (fun kq v14 w' => ∃ (x14_7 : Int), v14 = .int .i64 x14_7 ∧ Aside0 (erratalaw02_TextLines.l4 kq a1 t342 t351 x10_33 x11_6 x14_7 = some r) ∧ Aside0 (kq ≤ k6) ∧ Aside0 (Kd.R Kd.string 9 w' w.heap.size (fun k_ => some k_ ≠ (u11 : Value).ownBlock) (.slice Ao50 t351.length co50) t351) ∧ Aside0 (Kd.R Kd.string 9 w' w.heap.size (fun k_ => some k_ ≠ ((.slice Ao50 t351.length co50) : Value).ownBlock) u11 x11_6) ∧ Aside0 (Below w.heap.size w w'))
                                  case atStart => exact ⟨(0), (by first | rfl | (simp; done) | (simp [*]; done)), H', ⟨Nat.le_refl _⟩, ⟨by (with_reducible repeat (first | apply Kd.R_alloc | apply Kd.R_drewN | apply Kd.R_drew)); exact HO_9.out⟩, ⟨by (with_reducible repeat (first | apply Kd.R_alloc | apply Kd.R_drewN | apply Kd.R_drew)); exact HO_11.out⟩, ⟨by repeat (first | (with_reducible first | exact HB.out | apply below_alloc | apply pw_below_drewN | apply below_drew1) | exact HB.out)⟩⟩
                                  case round =>
                                    clear H'
                                    try clear c1
                                    try clear p1
                                    try clear q1
                                    try clear hx1
                                    try clear c2
                                    try clear p2
                                    try clear c3
                                    try clear p3
                                    try clear q3
                                    try clear hx3
                                    try clear c4
                                    try clear p4
                                    try clear q4
                                    try clear hx4
                                    try clear c6
                                    try clear c6b0
                                    try clear c6b1
                                    try clear p6
                                    try clear c7
                                    try clear c8
                                    try clear c8b0
                                    try clear c9
                                    try clear c9b0
                                    try clear c10
                                    try clear c10b0
                                    try clear c10b1
                                    try clear c11
                                    try clear c11b0
                                    try clear c12
                                    try clear c12b0
                                    try clear c13
                                    try clear c13b0
                                    try clear c14
                                    try clear c15
                                    try clear c15b0
                                    try clear p16
                                    try clear q16
                                    try clear hx16
                                    try clear c17
                                    try clear c18
                                    try clear c25
                                    try clear c29
                                    try clear c29b0
                                    try clear c29b1
                                    try clear c31
                                    try clear c31b0
                                    try clear c32
                                    try clear c32b0
                                    try clear p33
                                    try clear q33
                                    try clear hx33
                                    try clear p34
                                    try clear q34
                                    try clear hx34
                                    try clear c35
                                    try clear p35
                                    try clear q35
                                    try clear hx35
                                    try clear c36
                                    try clear c36b0
                                    try clear c36b1
                                    try clear c36b2
                                    try clear c37
                                    try clear c37b0
                                    try clear c39
                                    try clear c39b0
                                    try clear c40
                                    try clear c40b0
                                    try clear c41
                                    try clear c41b0
                                    try clear c42
                                    try clear c42b0
                                    try clear p43
                                    try clear q43
                                    try clear hx43
                                    try clear c44
                                    try clear c44b0
                                    try clear c44b1
                                    try clear c46
                                    try clear hx343_0
                                    try clear hx344_0
                                    try clear hx345_0
                                    try clear hx354_0
                                    try clear hx355_0
                                    try clear hx356_0
                                    try clear p1
                                    try clear p16
                                    try clear p2
                                    try clear p3
                                    try clear p33
                                    try clear p34
                                    try clear p343
                                    try clear p344
                                    try clear p345
                                    try clear p354
                                    try clear p355
                                    try clear p356
                                    try clear p43
                                    try clear p6
                                    try clear q1
                                    try clear q16
                                    try clear q3
                                    try clear q33
                                    try clear q34
                                    try clear q343
                                    try clear q344
                                    try clear q345
                                    try clear q354
                                    try clear q355
                                    try clear q356
                                    try clear q43
                                    obtain ⟨x14_7, rfl, HA, HK7, HO_9, HO_11, HB⟩ := hrel
                                    cases gk with
                                    | zero => exact absurd HA.out (by simp [erratalaw02_TextLines.l4])
                                    | succ k7 =>
                                      have H := HA.out
                                      clear HA
                                      simp only [erratalaw02_TextLines.l4] at H
                                      by_cases c51 : x14_7 < (x11_6.length : Int)
                                      · rw [if_pos c51] at H
                                        have c51b0 : decide (x14_7 < (x11_6.length : Int)) = true := decide_eq_true c51
                                        clear c51
                                        have H' := Aside0.mk H
                                        clear H
                                        obtain ⟨Ao52, co52, eo52⟩ := Kd.R_slice HO_11.out
                                        subst eo52
                                        go_wp2
                                        go_loopg [15] k7 (fun kq v15 w' => ∃ (x15_8 : Int), v15 = .int .i64 x15_8 ∧ Aside0 (erratalaw02_TextLines.l5 kq a1 t342 t351 x10_33 x11_6 x14_7 x15_8 = some r) ∧ Aside0 (kq ≤ k7) ∧ Aside0 (Kd.R Kd.string 9 w' w.heap.size (fun k_ => some k_ ≠ ((.slice Ao52 x11_6.length co52) : Value).ownBlock) (.slice Ao50 t351.length co50) t351) ∧ Aside0 (Kd.R Kd.string 9 w' w.heap.size (fun k_ => some k_ ≠ ((.slice Ao50 t351.length co50) : Value).ownBlock) (.slice Ao52 x11_6.length co52) x11_6) ∧ Aside0 (Below w.heap.size w w'))
                                        case atStart => exact ⟨(0), (by first | rfl | (simp; done) | (simp [*]; done)), H', ⟨Nat.le_refl _⟩, ⟨by (with_reducible repeat (first | apply Kd.R_alloc | apply Kd.R_drewN | apply Kd.R_drew)); exact HO_9.out⟩, ⟨by (with_reducible repeat (first | apply Kd.R_alloc | apply Kd.R_drewN | apply Kd.R_drew)); exact HO_11.out⟩, ⟨by repeat (first | (with_reducible first | exact HB.out | apply below_alloc | apply pw_below_drewN | apply below_drew1) | exact HB.out)⟩⟩
                                        case round =>
                                          clear H'
                                          try clear c1
                                          try clear p1
                                          try clear q1
                                          try clear hx1
                                          try clear c2
                                          try clear p2
                                          try clear c3
                                          try clear p3
                                          try clear q3
                                          try clear hx3
                                          try clear c4
                                          try clear p4
                                          try clear q4
                                          try clear hx4
                                          try clear c5
                                          try clear c6
                                          try clear c6b0
                                          try clear c6b1
                                          try clear p6
                                          try clear c7
                                          try clear c8
                                          try clear c8b0
                                          try clear c9
                                          try clear c9b0
                                          try clear c10
                                          try clear c10b0
                                          try clear c10b1
                                          try clear c11
                                          try clear c11b0
                                          try clear c12
                                          try clear c12b0
                                          try clear c13
                                          try clear c13b0
                                          try clear c14
                                          try clear c15
                                          try clear c15b0
                                          try clear p16
                                          try clear q16
                                          try clear hx16
                                          try clear c17
                                          try clear c18
                                          try clear c25
                                          try clear c29
                                          try clear c29b0
                                          try clear c29b1
                                          try clear c31
                                          try clear c31b0
                                          try clear c32
                                          try clear c32b0
                                          try clear p33
                                          try clear q33
                                          try clear hx33
                                          try clear p34
                                          try clear q34
                                          try clear hx34
                                          try clear c35
                                          try clear p35
                                          try clear q35
                                          try clear hx35
                                          try clear c36
                                          try clear c36b0
                                          try clear c36b1
                                          try clear c36b2
                                          try clear c37
                                          try clear c37b0
                                          try clear c39
                                          try clear c39b0
                                          try clear c40
                                          try clear c40b0
                                          try clear c41
                                          try clear c41b0
                                          try clear c42
                                          try clear c42b0
                                          try clear p43
                                          try clear q43
                                          try clear hx43
                                          try clear c44
                                          try clear c44b0
                                          try clear c44b1
                                          try clear c46
                                          try clear c51
                                          try clear c51b0
                                          try clear hx343_0
                                          try clear hx344_0
                                          try clear hx345_0
                                          try clear hx354_0
                                          try clear hx355_0
                                          try clear hx356_0
                                          try clear p1
                                          try clear p16
                                          try clear p2
                                          try clear p3
                                          try clear p33
                                          try clear p34
                                          try clear p343
                                          try clear p344
                                          try clear p345
                                          try clear p35
                                          try clear p354
                                          try clear p355
                                          try clear p356
                                          try clear p4
                                          try clear p43
                                          try clear p6
                                          try clear q1
                                          try clear q16
                                          try clear q3
                                          try clear q33
                                          try clear q34
                                          try clear q343
                                          try clear q344
                                          try clear q345
                                          try clear q35
                                          try clear q354
                                          try clear q355
                                          try clear q356
                                          try clear q4
                                          try clear q43
                                          obtain ⟨x15_8, rfl, HA, HK8, HO_9, HO_11, HB⟩ := hrel
                                          cases gk with
                                          | zero => exact absurd HA.out (by simp [erratalaw02_TextLines.l5])
                                          | succ k8 =>
                                            have H := HA.out
                                            clear HA
                                            simp only [erratalaw02_TextLines.l5] at H
                                            by_cases c53 : 0 ≤ x14_7
                                            · rw [if_pos c53] at H
                                              have c53b0 : decide (0 ≤ x14_7) = true := decide_eq_true c53
                                              clear c53
                                              by_cases c54 : x14_7 < (x11_6.length : Int)
                                              · rw [if_pos c54] at H
                                                have c54b0 : decide (x14_7 < (x11_6.length : Int)) = true := decide_eq_true c54
                                                clear c54
                                                by_cases c55 : x15_8 < ((rdOf ByteArray.empty x11_6 x14_7).size : Int)
                                                · rw [if_pos c55] at H
                                                  have c55b0 : decide (x15_8 < ((rdOf ByteArray.empty x11_6 x14_7).size : Int)) = true := decide_eq_true c55
                                                  clear c55
                                                  by_cases c56 : 0 ≤ x15_8
                                                  · rw [if_pos c56] at H
                                                    have c56b0 : decide (0 ≤ x15_8) = true := decide_eq_true c56
                                                    clear c56
                                                    by_cases c58 : (bt (rdOf ByteArray.empty x11_6 x14_7) x15_8) = 32
                                                    · rw [if_pos c58] at H
                                                      have c58b0 : ((bt (rdOf ByteArray.empty x11_6 x14_7) x15_8) == 32) = true := beq_iff_eq.mpr c58
                                                      have c58b1 : ((bt (rdOf ByteArray.empty x11_6 x14_7) x15_8) != 32) = false := bne_eq_false_iff_eq.mpr c58
                                                      clear c58
                                                      obtain rfl := Option.some.inj H
                                                      have p368 : 0 ≤ (x14_7 : Int) := of_decide_eq_true (by first | (with_reducible assumption) | assumption)
                                                      have q368 : x14_7 < (x11_6.length : Int) := of_decide_eq_true (by first | (with_reducible assumption) | assumption)
                                                      obtain ⟨ad368, e368, hx368_0⟩ := Kd.at_string (Kd.R_reads' HO_11.out).2.2 x14_7 p368 q368
                                                      cases e368
                                                      replace p368 := eq_true p368
                                                      replace q368 := eq_true q368
                                                      have p369 : 0 ≤ (x14_7 : Int) := of_decide_eq_true (by first | (with_reducible assumption) | assumption)
                                                      have q369 : x14_7 < (x11_6.length : Int) := of_decide_eq_true (by first | (with_reducible assumption) | assumption)
                                                      obtain ⟨ad369, e369, hx369_0⟩ := Kd.at_string (Kd.R_reads' HO_11.out).2.2 x14_7 p369 q369
                                                      obtain rfl : ad368 = ad369 := (by injection e369)
                                                      replace p369 := eq_true p369
                                                      replace q369 := eq_true q369
                                                      have p57 : 0 ≤ (x15_8 : Int) := of_decide_eq_true (by first | (with_reducible assumption) | assumption)
                                                      have q57 : x15_8 < ((rdOf ByteArray.empty x11_6 x14_7).size : Int) := of_decide_eq_true (by first | (with_reducible assumption) | assumption)
                                                      have hx57 := bt_at (rdOf ByteArray.empty x11_6 x14_7) x15_8
                                                      replace p57 := eq_true p57
                                                      replace q57 := eq_true q57
                                                      go_wp2
                                                      go_ret
                                                      exact ⟨by first | rfl | (simp [errW_none, errW_some] <;> rfl) | (simp [*, errW_none, errW_some] <;> rfl), by repeat (first | (with_reducible first | exact HB.out | apply below_alloc | apply pw_below_drewN | apply below_drew1) | exact HB.out)⟩
                                                    · rw [if_neg c58] at H
                                                      have c58b0 : ((bt (rdOf ByteArray.empty x11_6 x14_7) x15_8) == 32) = false := beq_eq_false_iff_ne.mpr c58
                                                      have c58b1 : ((bt (rdOf ByteArray.empty x11_6 x14_7) x15_8) != 32) = true := bne_iff_ne.mpr c58
                                                      by_cases c59 : (bt (rdOf ByteArray.empty x11_6 x14_7) x15_8) = 9
                                                      · rw [if_pos c59] at H
                                                        have c59b0 : ((bt (rdOf ByteArray.empty x11_6 x14_7) x15_8) == 9) = true := beq_iff_eq.mpr c59
                                                        have c59b1 : ((bt (rdOf ByteArray.empty x11_6 x14_7) x15_8) != 9) = false := bne_eq_false_iff_eq.mpr c59
                                                        clear c59
                                                        obtain rfl := Option.some.inj H
                                                        have p368 : 0 ≤ (x14_7 : Int) := of_decide_eq_true (by first | (with_reducible assumption) | assumption)
                                                        have q368 : x14_7 < (x11_6.length : Int) := of_decide_eq_true (by first | (with_reducible assumption) | assumption)
                                                        obtain ⟨ad368, e368, hx368_0⟩ := Kd.at_string (Kd.R_reads' HO_11.out).2.2 x14_7 p368 q368
                                                        cases e368
                                                        replace p368 := eq_true p368
                                                        replace q368 := eq_true q368
                                                        have p369 : 0 ≤ (x14_7 : Int) := of_decide_eq_true (by first | (with_reducible assumption) | assumption)
                                                        have q369 : x14_7 < (x11_6.length : Int) := of_decide_eq_true (by first | (with_reducible assumption) | assumption)
                                                        obtain ⟨ad369, e369, hx369_0⟩ := Kd.at_string (Kd.R_reads' HO_11.out).2.2 x14_7 p369 q369
                                                        obtain rfl : ad368 = ad369 := (by injection e369)
                                                        replace p369 := eq_true p369
                                                        replace q369 := eq_true q369
                                                        have p57 : 0 ≤ (x15_8 : Int) := of_decide_eq_true (by first | (with_reducible assumption) | assumption)
                                                        have q57 : x15_8 < ((rdOf ByteArray.empty x11_6 x14_7).size : Int) := of_decide_eq_true (by first | (with_reducible assumption) | assumption)
                                                        have hx57 := bt_at (rdOf ByteArray.empty x11_6 x14_7) x15_8
                                                        replace p57 := eq_true p57
                                                        replace q57 := eq_true q57
                                                        go_wp2
                                                        go_ret
                                                        exact ⟨by first | rfl | (simp [errW_none, errW_some] <;> rfl) | (simp [*, errW_none, errW_some] <;> rfl), by repeat (first | (with_reducible first | exact HB.out | apply below_alloc | apply pw_below_drewN | apply below_drew1) | exact HB.out)⟩
                                                      · rw [if_neg c59] at H
                                                        have c59b0 : ((bt (rdOf ByteArray.empty x11_6 x14_7) x15_8) == 9) = false := beq_eq_false_iff_ne.mpr c59
                                                        have c59b1 : ((bt (rdOf ByteArray.empty x11_6 x14_7) x15_8) != 9) = true := bne_iff_ne.mpr c59
                                                        by_cases c60 : (bt (rdOf ByteArray.empty x11_6 x14_7) x15_8) = 10
                                                        · rw [if_pos c60] at H
                                                          have c60b0 : ((bt (rdOf ByteArray.empty x11_6 x14_7) x15_8) == 10) = true := beq_iff_eq.mpr c60
                                                          have c60b1 : ((bt (rdOf ByteArray.empty x11_6 x14_7) x15_8) != 10) = false := bne_eq_false_iff_eq.mpr c60
                                                          clear c60
                                                          obtain rfl := Option.some.inj H
                                                          have p368 : 0 ≤ (x14_7 : Int) := of_decide_eq_true (by first | (with_reducible assumption) | assumption)
                                                          have q368 : x14_7 < (x11_6.length : Int) := of_decide_eq_true (by first | (with_reducible assumption) | assumption)
                                                          obtain ⟨ad368, e368, hx368_0⟩ := Kd.at_string (Kd.R_reads' HO_11.out).2.2 x14_7 p368 q368
                                                          cases e368
                                                          replace p368 := eq_true p368
                                                          replace q368 := eq_true q368
                                                          have p369 : 0 ≤ (x14_7 : Int) := of_decide_eq_true (by first | (with_reducible assumption) | assumption)
                                                          have q369 : x14_7 < (x11_6.length : Int) := of_decide_eq_true (by first | (with_reducible assumption) | assumption)
                                                          obtain ⟨ad369, e369, hx369_0⟩ := Kd.at_string (Kd.R_reads' HO_11.out).2.2 x14_7 p369 q369
                                                          obtain rfl : ad368 = ad369 := (by injection e369)
                                                          replace p369 := eq_true p369
                                                          replace q369 := eq_true q369
                                                          have p57 : 0 ≤ (x15_8 : Int) := of_decide_eq_true (by first | (with_reducible assumption) | assumption)
                                                          have q57 : x15_8 < ((rdOf ByteArray.empty x11_6 x14_7).size : Int) := of_decide_eq_true (by first | (with_reducible assumption) | assumption)
                                                          have hx57 := bt_at (rdOf ByteArray.empty x11_6 x14_7) x15_8
                                                          replace p57 := eq_true p57
                                                          replace q57 := eq_true q57
                                                          go_wp2
                                                          go_ret
                                                          exact ⟨by first | rfl | (simp [errW_none, errW_some] <;> rfl) | (simp [*, errW_none, errW_some] <;> rfl), by repeat (first | (with_reducible first | exact HB.out | apply below_alloc | apply pw_below_drewN | apply below_drew1) | exact HB.out)⟩
                                                        · rw [if_neg c60] at H
                                                          have c60b0 : ((bt (rdOf ByteArray.empty x11_6 x14_7) x15_8) == 10) = false := beq_eq_false_iff_ne.mpr c60
                                                          have c60b1 : ((bt (rdOf ByteArray.empty x11_6 x14_7) x15_8) != 10) = true := bne_iff_ne.mpr c60
                                                          have H' := Aside0.mk H
                                                          clear H
                                                          have p368 : 0 ≤ (x14_7 : Int) := of_decide_eq_true (by first | (with_reducible assumption) | assumption)
                                                          have q368 : x14_7 < (x11_6.length : Int) := of_decide_eq_true (by first | (with_reducible assumption) | assumption)
                                                          obtain ⟨ad368, e368, hx368_0⟩ := Kd.at_string (Kd.R_reads' HO_11.out).2.2 x14_7 p368 q368
                                                          cases e368
                                                          replace p368 := eq_true p368
                                                          replace q368 := eq_true q368
                                                          have p369 : 0 ≤ (x14_7 : Int) := of_decide_eq_true (by first | (with_reducible assumption) | assumption)
                                                          have q369 : x14_7 < (x11_6.length : Int) := of_decide_eq_true (by first | (with_reducible assumption) | assumption)
                                                          obtain ⟨ad369, e369, hx369_0⟩ := Kd.at_string (Kd.R_reads' HO_11.out).2.2 x14_7 p369 q369
                                                          obtain rfl : ad368 = ad369 := (by injection e369)
                                                          replace p369 := eq_true p369
                                                          replace q369 := eq_true q369
                                                          have p57 : 0 ≤ (x15_8 : Int) := of_decide_eq_true (by first | (with_reducible assumption) | assumption)
                                                          have q57 : x15_8 < ((rdOf ByteArray.empty x11_6 x14_7).size : Int) := of_decide_eq_true (by first | (with_reducible assumption) | assumption)
                                                          have hx57 := bt_at (rdOf ByteArray.empty x11_6 x14_7) x15_8
                                                          replace p57 := eq_true p57
                                                          replace q57 := eq_true q57
                                                          go_wp2
                                                          go_roundg k8
                                                          case measure => have := HJ3.out; have := HK2.out; have := HJ16.out; have := HJ26.out; have := HJ33.out; have := HK6.out; have := HK7.out; have := HK8.out; omega
                                                          case rel => exact ⟨(wrap64 (x15_8 + 1)), (by first | rfl | (simp; done) | (simp [*]; done)), H', ⟨by have := HJ3.out; have := HK2.out; have := HJ16.out; have := HJ26.out; have := HJ33.out; have := HK6.out; have := HK7.out; have := HK8.out; omega⟩, ⟨by (with_reducible repeat (first | apply Kd.R_alloc | apply Kd.R_drewN | apply Kd.R_drew)); exact HO_9.out⟩, ⟨by (with_reducible repeat (first | apply Kd.R_alloc | apply Kd.R_drewN | apply Kd.R_drew)); exact HO_11.out⟩, ⟨by repeat (first | (with_reducible first | exact HB.out | apply below_alloc | apply pw_below_drewN | apply below_drew1) | exact HB.out)⟩⟩
                                                  · rw [if_neg c56] at H
                                                    exact absurd H (by simp)
                                                · rw [if_neg c55] at H
                                                  have c55b0 : decide (x15_8 < ((rdOf ByteArray.empty x11_6 x14_7).size : Int)) = false := decide_eq_false c55
                                                  clear c55
                                                  by_cases c61 : (rdOf ByteArray.empty x11_6 x14_7).toList = ([] : List UInt8)
                                                  · rw [if_pos c61] at H
                                                    have c61b0 : ((rdOf ByteArray.empty x11_6 x14_7).toList == ([] : List UInt8)) = true := beq_iff_eq.mpr c61
                                                    have c61b1 : ((rdOf ByteArray.empty x11_6 x14_7).toList != ([] : List UInt8)) = false := bne_eq_false_iff_eq.mpr c61
                                                    clear c61
                                                    obtain rfl := Option.some.inj H
                                                    have p368 : 0 ≤ (x14_7 : Int) := of_decide_eq_true (by first | (with_reducible assumption) | assumption)
                                                    have q368 : x14_7 < (x11_6.length : Int) := of_decide_eq_true (by first | (with_reducible assumption) | assumption)
                                                    obtain ⟨ad368, e368, hx368_0⟩ := Kd.at_string (Kd.R_reads' HO_11.out).2.2 x14_7 p368 q368
                                                    cases e368
                                                    replace p368 := eq_true p368
                                                    replace q368 := eq_true q368
                                                    have p370 : 0 ≤ (x14_7 : Int) := of_decide_eq_true (by first | (with_reducible assumption) | assumption)
                                                    have q370 : x14_7 < (x11_6.length : Int) := of_decide_eq_true (by first | (with_reducible assumption) | assumption)
                                                    obtain ⟨ad370, e370, hx370_0⟩ := Kd.at_string (Kd.R_reads' HO_11.out).2.2 x14_7 p370 q370
                                                    obtain rfl : ad368 = ad370 := (by injection e370)
                                                    replace p370 := eq_true p370
                                                    replace q370 := eq_true q370
                                                    go_wp2
                                                    go_ret
                                                    exact ⟨by first | rfl | (simp [errW_none, errW_some] <;> rfl) | (simp [*, errW_none, errW_some] <;> rfl), by repeat (first | (with_reducible first | exact HB.out | apply below_alloc | apply pw_below_drewN | apply below_drew1) | exact HB.out)⟩
                                                  · rw [if_neg c61] at H
                                                    have c61b0 : ((rdOf ByteArray.empty x11_6 x14_7).toList == ([] : List UInt8)) = false := beq_eq_false_iff_ne.mpr c61
                                                    have c61b1 : ((rdOf ByteArray.empty x11_6 x14_7).toList != ([] : List UInt8)) = true := bne_iff_ne.mpr c61
                                                    have H' := Aside0.mk H
                                                    clear H
                                                    have p368 : 0 ≤ (x14_7 : Int) := of_decide_eq_true (by first | (with_reducible assumption) | assumption)
                                                    have q368 : x14_7 < (x11_6.length : Int) := of_decide_eq_true (by first | (with_reducible assumption) | assumption)
                                                    obtain ⟨ad368, e368, hx368_0⟩ := Kd.at_string (Kd.R_reads' HO_11.out).2.2 x14_7 p368 q368
                                                    cases e368
                                                    replace p368 := eq_true p368
                                                    replace q368 := eq_true q368
                                                    have p370 : 0 ≤ (x14_7 : Int) := of_decide_eq_true (by first | (with_reducible assumption) | assumption)
                                                    have q370 : x14_7 < (x11_6.length : Int) := of_decide_eq_true (by first | (with_reducible assumption) | assumption)
                                                    obtain ⟨ad370, e370, hx370_0⟩ := Kd.at_string (Kd.R_reads' HO_11.out).2.2 x14_7 p370 q370
                                                    obtain rfl : ad368 = ad370 := (by injection e370)
                                                    replace p370 := eq_true p370
                                                    replace q370 := eq_true q370
                                                    go_wp2
                                                    go_roundg k8
                                                    case measure => have := HJ3.out; have := HK2.out; have := HJ16.out; have := HJ26.out; have := HJ33.out; have := HK6.out; have := HK7.out; have := HK8.out; omega
                                                    case rel => exact ⟨(wrap64 (x14_7 + 1)), (by first | rfl | (simp; done) | (simp [*]; done)), H', ⟨by have := HJ3.out; have := HK2.out; have := HJ16.out; have := HJ26.out; have := HJ33.out; have := HK6.out; have := HK7.out; have := HK8.out; omega⟩, ⟨by (with_reducible repeat (first | apply Kd.R_alloc | apply Kd.R_drewN | apply Kd.R_drew)); exact HO_9.out⟩, ⟨by (with_reducible repeat (first | apply Kd.R_alloc | apply Kd.R_drewN | apply Kd.R_drew)); exact HO_11.out⟩, ⟨by repeat (first | (with_reducible first | exact HB.out | apply below_alloc | apply pw_below_drewN | apply below_drew1) | exact HB.out)⟩⟩
                                              · rw [if_neg c54] at H
                                                exact absurd H (by simp)
                                            · rw [if_neg c53] at H
                                              exact absurd H (by simp)
                                      · rw [if_neg c51] at H
                                        have c51b0 : decide (x14_7 < (x11_6.length : Int)) = false := decide_eq_false c51
                                        clear c51
                                        by_cases c62 : t342 = true
                                        · subst c62
                                          have H1 : ((text_Unlines.f t351).bind fun t363 => (if t363.toList = x10_33.toList then ((text_Fields.f a1).bind fun t364 => ((errataref02_Same.f k7 t364 x11_6).bind fun t367 => (some t367))) else (some false))) = some r := by rw [if_pos rfl] at H; exact H
                                          clear H
                                          have H := H1
                                          clear H1
                                          replace H := Option.bind_eq_some_iff.mp H
                                          obtain ⟨t363, A630, H⟩ := H
                                          replace H : (if t363.toList = x10_33.toList then ((text_Fields.f a1).bind fun t364 => ((errataref02_Same.f k7 t364 x11_6).bind fun t367 => (some t367))) else (some false)) = some r := H
                                          have A63 := Aside0.mk A630
                                          clear A630
                                          by_cases c64 : t363.toList = x10_33.toList
                                          · rw [if_pos c64] at H
                                            have c64b0 : (t363.toList == x10_33.toList) = true := beq_iff_eq.mpr c64
                                            have c64b1 : (t363.toList != x10_33.toList) = false := bne_eq_false_iff_eq.mpr c64
                                            clear c64
                                            replace H := Option.bind_eq_some_iff.mp H
                                            obtain ⟨t364, A650, H⟩ := H
                                            replace H : ((errataref02_Same.f k7 t364 x11_6).bind fun t367 => (some t367)) = some r := H
                                            have A65 := Aside0.mk A650
                                            clear A650
                                            replace H := Option.bind_eq_some_iff.mp H
                                            obtain ⟨t367, A660, H⟩ := H
                                            replace H : (some t367) = some r := H
                                            have A66 := Aside0.mk A660
                                            clear A660
                                            obtain rfl := Option.some.inj H
                                            obtain ⟨Ao67, co67, eo67⟩ := Kd.R_slice HO_11.out
                                            subst eo67
                                            go_wp2_with (first | (go_at_call 16; (with_reducible refine (text_Unlines.calls _ _ t351 t363 _ ?side1 ?side2 A63.out).mono ?_); (case side1 => repeat (first | exact (Kd.R_reads' HO_9.out).2.2 | (with_reducible refine Kd.C_alloc ?_ _) | (with_reducible refine Kd.C_drewN ?_ _) | (with_reducible refine Kd.C_drew ?_))); (case side2 => exact (Kd.R_reads' HO_9.out).2.1); rintro e w68 ⟨rfl, hb⟩; have n0_ := Aside0.mk (Kd.R_below (by (with_reducible repeat (first | apply Kd.R_alloc | apply Kd.R_drewN | apply Kd.R_drew)); exact HO_9.out) hb); have n1_ := Aside0.mk (Kd.R_below (by (with_reducible repeat (first | apply Kd.R_alloc | apply Kd.R_drewN | apply Kd.R_drew)); exact HO_11.out) hb); have n2_ := Aside0.mk (below_step (by repeat (first | (with_reducible first | exact HB.out | apply below_alloc | apply pw_below_drewN | apply below_drew1) | exact HB.out)) hb); clear HO_9; clear HO_11; clear HB; have HO_9 := n0_; have HO_11 := n1_; have HB := n2_; clear n0_ n1_ n2_; (try clear hb); (try clear hb2); (try clear hk); (try clear hi)) | (go_at_call 17; (with_reducible refine (text_Fields.calls a1 t364 _ A65.out).mono ?_); rintro e w69 ⟨v365, rfl, ho0, hb⟩; have n0_ := Aside0.mk (Kd.R_elder' (by (with_reducible repeat (first | apply Kd.R_alloc | apply Kd.R_drewN | apply Kd.R_drew)); exact HO_9.out) (Kd.R_base ho0) hb); have n1_ := Aside0.mk (Kd.R_elder' (by (with_reducible repeat (first | apply Kd.R_alloc | apply Kd.R_drewN | apply Kd.R_drew)); exact HO_11.out) (Kd.R_base ho0) hb); have n2_ := Aside0.mk (Kd.R_lower (Kd.R_new' (Kd.R_new' ho0 (Kd.R_lt (by (with_reducible repeat (first | apply Kd.R_alloc | apply Kd.R_drewN | apply Kd.R_drew)); exact HO_9.out))) (Kd.R_lt (by (with_reducible repeat (first | apply Kd.R_alloc | apply Kd.R_drewN | apply Kd.R_drew)); exact HO_11.out))) (below_size (by repeat (first | (with_reducible first | exact HB.out | apply below_alloc | apply pw_below_drewN | apply below_drew1) | exact HB.out)))); have n3_ := Aside0.mk (below_step (by repeat (first | (with_reducible first | exact HB.out | apply below_alloc | apply pw_below_drewN | apply below_drew1) | exact HB.out)) hb); clear HO_9; clear HO_11; clear HB; have HO_9 := n0_; have HO_11 := n1_; have HO366 := n2_; have HB := n3_; clear n0_ n1_ n2_ n3_; (try clear hb); (try clear hb2); (try clear hk); (try clear hi); (try clear ho0); obtain ⟨Ao70, co70, eo70⟩ := Kd.R_slice HO366.out; subst eo70) | (go_at_call 14; (with_reducible refine (errataref02_Same.calls k7 _ _ t364 _ _ x11_6 t367 _ ?side1 ?side2 ?side3 ?side4 A66.out).mono ?_); (case side1 => repeat (first | exact (Kd.R_reads' HO366.out).2.2 | (with_reducible refine Kd.C_alloc ?_ _) | (with_reducible refine Kd.C_drewN ?_ _) | (with_reducible refine Kd.C_drew ?_))); (case side2 => exact (Kd.R_reads' HO366.out).2.1); (case side3 => repeat (first | exact (Kd.R_reads' HO_11.out).2.2 | (with_reducible refine Kd.C_alloc ?_ _) | (with_reducible refine Kd.C_drewN ?_ _) | (with_reducible refine Kd.C_drew ?_))); (case side4 => exact (Kd.R_reads' HO_11.out).2.1); rintro e w' ⟨rfl, ⟨nd, rfl⟩⟩))
                                            go_ret
                                            exact ⟨by first | rfl | (simp [errW_none, errW_some] <;> rfl) | (simp [*, errW_none, errW_some] <;> rfl), by repeat (first | (with_reducible first | exact HB.out | apply below_alloc | apply pw_below_drewN | apply below_drew1) | exact HB.out)⟩
                                          · rw [if_neg c64] at H
                                            have c64b0 : (t363.toList == x10_33.toList) = false := beq_eq_false_iff_ne.mpr c64
                                            have c64b1 : (t363.toList != x10_33.toList) = true := bne_iff_ne.mpr c64
                                            obtain rfl := Option.some.inj H
                                            obtain ⟨Ao71, co71, eo71⟩ := Kd.R_slice HO_11.out
                                            subst eo71
                                            go_wp2_with (first | (go_at_call 16; (with_reducible refine (text_Unlines.calls _ _ t351 t363 _ ?side1 ?side2 A63.out).mono ?_); (case side1 => repeat (first | exact (Kd.R_reads' HO_9.out).2.2 | (with_reducible refine Kd.C_alloc ?_ _) | (with_reducible refine Kd.C_drewN ?_ _) | (with_reducible refine Kd.C_drew ?_))); (case side2 => exact (Kd.R_reads' HO_9.out).2.1); rintro e w72 ⟨rfl, hb⟩; have n0_ := Aside0.mk (Kd.R_below (by (with_reducible repeat (first | apply Kd.R_alloc | apply Kd.R_drewN | apply Kd.R_drew)); exact HO_9.out) hb); have n1_ := Aside0.mk (Kd.R_below (by (with_reducible repeat (first | apply Kd.R_alloc | apply Kd.R_drewN | apply Kd.R_drew)); exact HO_11.out) hb); have n2_ := Aside0.mk (below_step (by repeat (first | (with_reducible first | exact HB.out | apply below_alloc | apply pw_below_drewN | apply below_drew1) | exact HB.out)) hb); clear HO_9; clear HO_11; clear HB; have HO_9 := n0_; have HO_11 := n1_; have HB := n2_; clear n0_ n1_ n2_; (try clear hb); (try clear hb2); (try clear hk); (try clear hi)))
                                            go_ret
                                            exact ⟨by first | rfl | (simp [errW_none, errW_some] <;> rfl) | (simp [*, errW_none, errW_some] <;> rfl), by repeat (first | (with_reducible first | exact HB.out | apply below_alloc | apply pw_below_drewN | apply below_drew1) | exact HB.out)⟩
                                        · replace c62 := Bool.eq_false_iff.mpr c62
                                          subst c62
                                          have H1 : (some false) = some r := by rw [if_neg (show ¬ (false = true) by decide)] at H; exact H
                                          clear H
                                          have H := H1
                                          clear H1
                                          obtain rfl := Option.some.inj H
                                          obtain ⟨Ao73, co73, eo73⟩ := Kd.R_slice HO_11.out
                                          subst eo73
                                          go_wp2
                                          go_ret
                                          exact ⟨by first | rfl | (simp [errW_none, errW_some] <;> rfl) | (simp [*, errW_none, errW_some] <;> rfl), by repeat (first | (with_reducible first | exact HB.out | apply below_alloc | apply pw_below_drewN | apply below_drew1) | exact HB.out)⟩

end Go.Proofs.YtfefbnfmngdicaaDoor.PX
