-- Written by a program of this session (wip/tools): the kit's printer, turned to take contracts that were proved by hand.
import Derived.Test.YtfefbnfmngdicaaDoorPX0
import Derived.Test.YtfefbnfmngdicaaDoorPX2
import Derived.Test.YtfefbnfmngdicaaDoorPX16
import Derived.Test.YtfefbnfmngdicaaDoorE1
import Derived.Test.YtfefbnfmngdicaaDoorE2
import Derived.Test.YtfefbnfmngdicaaDoorE3
import Derived.Test.YtfefbnfmngdicaaDoorE4
import Derived.Test.YtfefbnfmngdicaaDoorEnv
namespace Go.Proofs.YtfefbnfmngdicaaDoor.PX
open Go.RowKit Go.Proofs.YtfefbnfmngdicaaDoorW.PrintWords Go.Proofs.YtfefbnfmngdicaaDoorW.PrintLast Go.Proofs.YtfefbnfmngdicaaDoorW.PrintMore
attribute [local go_sem] max2_int min2_int max_two min_two max_three min_three max_four min_four   -- for this text's walks alone
set_option linter.unusedVariables false
set_option linter.unusedSimpArgs false

/-! ### erratalaw02_TextBack: function 5 -/
def erratalaw02_TextBack.j0 : Nat → Int → ByteArray → Bool → Int → Bool → ByteArray → Bool → Int → Bool → ByteArray → Bool → Bool → Option (Bool)
  | 0, _, _, _, _, _, _, _, _, _, _, _, _ => none
  | k + 1, x0, x1, x5, x6, x7, x8, x9, x10, x11, x12, x13, x54 => if x54 = true then (some false) else (if x5 = true then (if x7 = true then (if x6 = x0 then (if x9 = true then (if x8.toList = x1.toList then (if x11 = true then ((text_Decimal.f x10).bind fun t394 => (if t394.toList = x1.toList then (if x13 = true then ((text_Quote.f x12).bind fun t395 => (some (t395.toList == x1.toList))) else (some true)) else (some false))) else (if x13 = true then ((text_Quote.f x12).bind fun t396 => (some (t396.toList == x1.toList))) else (some true))) else (some false)) else (some false)) else (some false)) else (some false)) else (some false))
def erratalaw02_TextBack.f (k : Nat) (a0 : Int) (a1 : ByteArray) : Option (Bool) := (erratalaw02_small.f k).bind fun t383 => (if (a1.size : Int) > 300 then (some t383) else ((text_Decimal.f a0).bind fun t384 => ((text_Int.f t384).bind fun bt385 => ((text_Quote.f a1).bind fun t387 => ((text_Unquote.f t387).bind fun bt388 => ((text_Int.f a1).bind fun bt390 => ((text_Unquote.f a1).bind fun bt392 => (if bt390.2 = true then (if bt392.2 = true then (erratalaw02_TextBack.j0 k a0 a1 t383 bt385.1 bt385.2 bt388.1 bt388.2 bt390.1 bt390.2 bt392.1 bt392.2 false) else (erratalaw02_TextBack.j0 k a0 a1 t383 bt385.1 bt385.2 bt388.1 bt388.2 bt390.1 bt390.2 bt392.1 bt392.2 (bt392.1.toList != ([] : List UInt8)))) else (if bt390.1 = 0 then (if bt392.2 = true then (erratalaw02_TextBack.j0 k a0 a1 t383 bt385.1 bt385.2 bt388.1 bt388.2 bt390.1 bt390.2 bt392.1 bt392.2 false) else (erratalaw02_TextBack.j0 k a0 a1 t383 bt385.1 bt385.2 bt388.1 bt388.2 bt390.1 bt390.2 bt392.1 bt392.2 (bt392.1.toList != ([] : List UInt8)))) else (erratalaw02_TextBack.j0 k a0 a1 t383 bt385.1 bt385.2 bt388.1 bt388.2 bt390.1 bt390.2 bt392.1 bt392.2 true))))))))))
theorem erratalaw02_TextBack.mono_l : ∀ k, (∀ y0 y1 y2 y3 y4 y5 y6 y7 y8 y9 y10 y11, LeO (erratalaw02_TextBack.j0 k y0 y1 y2 y3 y4 y5 y6 y7 y8 y9 y10 y11) (erratalaw02_TextBack.j0 (k + 1) y0 y1 y2 y3 y4 y5 y6 y7 y8 y9 y10 y11))
  | 0 => fun _ _ _ _ _ _ _ _ _ _ _ _ r h => by simp [erratalaw02_TextBack.j0] at h
  | k + 1 => by
    have ih0 := erratalaw02_TextBack.mono_l k
    · intro y0 y1 y2 y3 y4 y5 y6 y7 y8 y9 y10 y11
      unfold erratalaw02_TextBack.j0
      repeat' first
      | (with_reducible exact ih0 _ _ _ _ _ _ _ _ _ _ _ _)
      | (with_reducible exact erratalaw02_small.mono _)
      | (with_reducible exact LeO.refl _)
      | (with_reducible exact LeO.none _)
      | (with_reducible refine LeO.ite ?_ ?_)
      | (with_reducible refine LeO.bind ?_ (fun _ => ?_))
      | exact ih0 _ _ _ _ _ _ _ _ _ _ _ _
      | exact erratalaw02_small.mono _
      | exact LeO.none _
      | refine LeO.ite ?_ ?_
      | refine LeO.bind ?_ (fun _ => ?_)
theorem erratalaw02_TextBack.mono : ∀ a0 a1 k, LeO (erratalaw02_TextBack.f k a0 a1) (erratalaw02_TextBack.f (k + 1) a0 a1) := by
  intro a0 a1 k
  have ih0 := erratalaw02_TextBack.mono_l k
  unfold erratalaw02_TextBack.f
  repeat' first
      | (with_reducible exact ih0 _ _ _ _ _ _ _ _ _ _ _ _)
      | (with_reducible exact erratalaw02_small.mono _)
      | (with_reducible exact LeO.refl _)
      | (with_reducible exact LeO.none _)
      | (with_reducible refine LeO.ite ?_ ?_)
      | (with_reducible refine LeO.bind ?_ (fun _ => ?_))
      | exact ih0 _ _ _ _ _ _ _ _ _ _ _ _
      | exact erratalaw02_small.mono _
      | exact LeO.none _
      | refine LeO.ite ?_ ?_
      | refine LeO.bind ?_ (fun _ => ?_)
set_option maxHeartbeats 8000000 in
set_option maxRecDepth 100000 in
theorem erratalaw02_TextBack.calls (k : Nat) (a0 : Int) (a1 : ByteArray) (r : Bool) (w : World) (hE : Env w) (h : erratalaw02_TextBack.f k a0 a1 = some r) :
    Calls Tryd.prog 5 #[.int .i64 a0, .string a1] w fun e w' => e = .returned (.bool r) ∧ Below w.heap.size w w' := by
  have HB := Aside0.mk (Below.refl w.heap.size w)
  have HE := Aside0.mk hE
  clear hE
  have H : ((erratalaw02_small.f k).bind fun t383 => (if (a1.size : Int) > 300 then (some t383) else ((text_Decimal.f a0).bind fun t384 => ((text_Int.f t384).bind fun bt385 => ((text_Quote.f a1).bind fun t387 => ((text_Unquote.f t387).bind fun bt388 => ((text_Int.f a1).bind fun bt390 => ((text_Unquote.f a1).bind fun bt392 => (if bt390.2 = true then (if bt392.2 = true then (erratalaw02_TextBack.j0 k a0 a1 t383 bt385.1 bt385.2 bt388.1 bt388.2 bt390.1 bt390.2 bt392.1 bt392.2 false) else (erratalaw02_TextBack.j0 k a0 a1 t383 bt385.1 bt385.2 bt388.1 bt388.2 bt390.1 bt390.2 bt392.1 bt392.2 (bt392.1.toList != ([] : List UInt8)))) else (if bt390.1 = 0 then (if bt392.2 = true then (erratalaw02_TextBack.j0 k a0 a1 t383 bt385.1 bt385.2 bt388.1 bt388.2 bt390.1 bt390.2 bt392.1 bt392.2 false) else (erratalaw02_TextBack.j0 k a0 a1 t383 bt385.1 bt385.2 bt388.1 bt388.2 bt390.1 bt390.2 bt392.1 bt392.2 (bt392.1.toList != ([] : List UInt8)))) else (erratalaw02_TextBack.j0 k a0 a1 t383 bt385.1 bt385.2 bt388.1 bt388.2 bt390.1 bt390.2 bt392.1 bt392.2 true))))))))))) = some r := h
  clear h
  replace H := Option.bind_eq_some_iff.mp H
  obtain ⟨t383, A30, H⟩ := H
  replace H : (if (a1.size : Int) > 300 then (some t383) else ((text_Decimal.f a0).bind fun t384 => ((text_Int.f t384).bind fun bt385 => ((text_Quote.f a1).bind fun t387 => ((text_Unquote.f t387).bind fun bt388 => ((text_Int.f a1).bind fun bt390 => ((text_Unquote.f a1).bind fun bt392 => (if bt390.2 = true then (if bt392.2 = true then (erratalaw02_TextBack.j0 k a0 a1 t383 bt385.1 bt385.2 bt388.1 bt388.2 bt390.1 bt390.2 bt392.1 bt392.2 false) else (erratalaw02_TextBack.j0 k a0 a1 t383 bt385.1 bt385.2 bt388.1 bt388.2 bt390.1 bt390.2 bt392.1 bt392.2 (bt392.1.toList != ([] : List UInt8)))) else (if bt390.1 = 0 then (if bt392.2 = true then (erratalaw02_TextBack.j0 k a0 a1 t383 bt385.1 bt385.2 bt388.1 bt388.2 bt390.1 bt390.2 bt392.1 bt392.2 false) else (erratalaw02_TextBack.j0 k a0 a1 t383 bt385.1 bt385.2 bt388.1 bt388.2 bt390.1 bt390.2 bt392.1 bt392.2 (bt392.1.toList != ([] : List UInt8)))) else (erratalaw02_TextBack.j0 k a0 a1 t383 bt385.1 bt385.2 bt388.1 bt388.2 bt390.1 bt390.2 bt392.1 bt392.2 true)))))))))) = some r := H
  have A3 := Aside0.mk A30
  clear A30
  by_cases c4 : (a1.size : Int) > 300
  · rw [if_pos c4] at H
    have c4b0 : decide (300 < (a1.size : Int)) = true := decide_eq_true c4
    have c4b1 : decide (300 < a1.size) = true := decide_eq_true (by omega)
    clear c4
    obtain rfl := Option.some.inj H
    go_enter Tryd.func5, Tryd.ntmps5
    go_wp2_with (first | ((with_reducible refine gate_callee (f := 13) rfl ?_); refine goesL_ (some 14) rfl rfl Tryd.func13 (by kernel_rfl) rfl #[] rfl (by (try simp only [List.map_toArray, List.map_cons, List.map_nil]); first | done | rfl | (simp only [List.length_drop, List.length_take]; rfl)) ?_; (with_reducible refine (erratalaw02_small.calls k  t383 _ ?side1 A3.out).mono ?_); (case side1 => exact envB HE.out (by repeat (first | (with_reducible first | exact HB.out | apply below_alloc | apply pw_below_drewN | apply below_drew1) | exact HB.out))); rintro e w5 ⟨rfl, hb⟩; refine ⟨_, rfl, ?_⟩; have n0_ := Aside0.mk (below_step (by repeat (first | (with_reducible first | exact HB.out | apply below_alloc | apply pw_below_drewN | apply below_drew1) | exact HB.out)) hb); clear HB; have HB := n0_; clear n0_; (try clear hb); (try clear hb2); (try clear hk); (try clear hi)))
    go_ret
    exact ⟨by first | rfl | (simp [errW_none, errW_some] <;> rfl) | (simp [*, errW_none, errW_some] <;> rfl), by repeat (first | (with_reducible first | exact HB.out | apply below_alloc | apply pw_below_drewN | apply below_drew1) | exact HB.out)⟩
  · rw [if_neg c4] at H
    have c4b0 : decide (300 < (a1.size : Int)) = false := decide_eq_false c4
    have c4b1 : decide (300 < a1.size) = false := decide_eq_false (by omega)
    clear c4
    replace H := Option.bind_eq_some_iff.mp H
    obtain ⟨t384, A60, H⟩ := H
    replace H : ((text_Int.f t384).bind fun bt385 => ((text_Quote.f a1).bind fun t387 => ((text_Unquote.f t387).bind fun bt388 => ((text_Int.f a1).bind fun bt390 => ((text_Unquote.f a1).bind fun bt392 => (if bt390.2 = true then (if bt392.2 = true then (erratalaw02_TextBack.j0 k a0 a1 t383 bt385.1 bt385.2 bt388.1 bt388.2 bt390.1 bt390.2 bt392.1 bt392.2 false) else (erratalaw02_TextBack.j0 k a0 a1 t383 bt385.1 bt385.2 bt388.1 bt388.2 bt390.1 bt390.2 bt392.1 bt392.2 (bt392.1.toList != ([] : List UInt8)))) else (if bt390.1 = 0 then (if bt392.2 = true then (erratalaw02_TextBack.j0 k a0 a1 t383 bt385.1 bt385.2 bt388.1 bt388.2 bt390.1 bt390.2 bt392.1 bt392.2 false) else (erratalaw02_TextBack.j0 k a0 a1 t383 bt385.1 bt385.2 bt388.1 bt388.2 bt390.1 bt390.2 bt392.1 bt392.2 (bt392.1.toList != ([] : List UInt8)))) else (erratalaw02_TextBack.j0 k a0 a1 t383 bt385.1 bt385.2 bt388.1 bt388.2 bt390.1 bt390.2 bt392.1 bt392.2 true)))))))) = some r := H
    have A6 := Aside0.mk A60
    clear A60
    replace H := Option.bind_eq_some_iff.mp H
    obtain ⟨⟨t385, t386⟩, A70, H⟩ := H
    replace H : ((text_Quote.f a1).bind fun t387 => ((text_Unquote.f t387).bind fun bt388 => ((text_Int.f a1).bind fun bt390 => ((text_Unquote.f a1).bind fun bt392 => (if bt390.2 = true then (if bt392.2 = true then (erratalaw02_TextBack.j0 k a0 a1 t383 t385 t386 bt388.1 bt388.2 bt390.1 bt390.2 bt392.1 bt392.2 false) else (erratalaw02_TextBack.j0 k a0 a1 t383 t385 t386 bt388.1 bt388.2 bt390.1 bt390.2 bt392.1 bt392.2 (bt392.1.toList != ([] : List UInt8)))) else (if bt390.1 = 0 then (if bt392.2 = true then (erratalaw02_TextBack.j0 k a0 a1 t383 t385 t386 bt388.1 bt388.2 bt390.1 bt390.2 bt392.1 bt392.2 false) else (erratalaw02_TextBack.j0 k a0 a1 t383 t385 t386 bt388.1 bt388.2 bt390.1 bt390.2 bt392.1 bt392.2 (bt392.1.toList != ([] : List UInt8)))) else (erratalaw02_TextBack.j0 k a0 a1 t383 t385 t386 bt388.1 bt388.2 bt390.1 bt390.2 bt392.1 bt392.2 true))))))) = some r := H
    have A7 := Aside0.mk A70
    clear A70
    replace H := Option.bind_eq_some_iff.mp H
    obtain ⟨t387, A80, H⟩ := H
    replace H : ((text_Unquote.f t387).bind fun bt388 => ((text_Int.f a1).bind fun bt390 => ((text_Unquote.f a1).bind fun bt392 => (if bt390.2 = true then (if bt392.2 = true then (erratalaw02_TextBack.j0 k a0 a1 t383 t385 t386 bt388.1 bt388.2 bt390.1 bt390.2 bt392.1 bt392.2 false) else (erratalaw02_TextBack.j0 k a0 a1 t383 t385 t386 bt388.1 bt388.2 bt390.1 bt390.2 bt392.1 bt392.2 (bt392.1.toList != ([] : List UInt8)))) else (if bt390.1 = 0 then (if bt392.2 = true then (erratalaw02_TextBack.j0 k a0 a1 t383 t385 t386 bt388.1 bt388.2 bt390.1 bt390.2 bt392.1 bt392.2 false) else (erratalaw02_TextBack.j0 k a0 a1 t383 t385 t386 bt388.1 bt388.2 bt390.1 bt390.2 bt392.1 bt392.2 (bt392.1.toList != ([] : List UInt8)))) else (erratalaw02_TextBack.j0 k a0 a1 t383 t385 t386 bt388.1 bt388.2 bt390.1 bt390.2 bt392.1 bt392.2 true)))))) = some r := H
    have A8 := Aside0.mk A80
    clear A80
    replace H := Option.bind_eq_some_iff.mp H
    obtain ⟨⟨t388, t389⟩, A90, H⟩ := H
    replace H : ((text_Int.f a1).bind fun bt390 => ((text_Unquote.f a1).bind fun bt392 => (if bt390.2 = true then (if bt392.2 = true then (erratalaw02_TextBack.j0 k a0 a1 t383 t385 t386 t388 t389 bt390.1 bt390.2 bt392.1 bt392.2 false) else (erratalaw02_TextBack.j0 k a0 a1 t383 t385 t386 t388 t389 bt390.1 bt390.2 bt392.1 bt392.2 (bt392.1.toList != ([] : List UInt8)))) else (if bt390.1 = 0 then (if bt392.2 = true then (erratalaw02_TextBack.j0 k a0 a1 t383 t385 t386 t388 t389 bt390.1 bt390.2 bt392.1 bt392.2 false) else (erratalaw02_TextBack.j0 k a0 a1 t383 t385 t386 t388 t389 bt390.1 bt390.2 bt392.1 bt392.2 (bt392.1.toList != ([] : List UInt8)))) else (erratalaw02_TextBack.j0 k a0 a1 t383 t385 t386 t388 t389 bt390.1 bt390.2 bt392.1 bt392.2 true))))) = some r := H
    have A9 := Aside0.mk A90
    clear A90
    replace H := Option.bind_eq_some_iff.mp H
    obtain ⟨⟨t390, t391⟩, A100, H⟩ := H
    replace H : ((text_Unquote.f a1).bind fun bt392 => (if t391 = true then (if bt392.2 = true then (erratalaw02_TextBack.j0 k a0 a1 t383 t385 t386 t388 t389 t390 t391 bt392.1 bt392.2 false) else (erratalaw02_TextBack.j0 k a0 a1 t383 t385 t386 t388 t389 t390 t391 bt392.1 bt392.2 (bt392.1.toList != ([] : List UInt8)))) else (if t390 = 0 then (if bt392.2 = true then (erratalaw02_TextBack.j0 k a0 a1 t383 t385 t386 t388 t389 t390 t391 bt392.1 bt392.2 false) else (erratalaw02_TextBack.j0 k a0 a1 t383 t385 t386 t388 t389 t390 t391 bt392.1 bt392.2 (bt392.1.toList != ([] : List UInt8)))) else (erratalaw02_TextBack.j0 k a0 a1 t383 t385 t386 t388 t389 t390 t391 bt392.1 bt392.2 true)))) = some r := H
    have A10 := Aside0.mk A100
    clear A100
    replace H := Option.bind_eq_some_iff.mp H
    obtain ⟨⟨t392, t393⟩, A110, H⟩ := H
    replace H : (if t391 = true then (if t393 = true then (erratalaw02_TextBack.j0 k a0 a1 t383 t385 t386 t388 t389 t390 t391 t392 t393 false) else (erratalaw02_TextBack.j0 k a0 a1 t383 t385 t386 t388 t389 t390 t391 t392 t393 (t392.toList != ([] : List UInt8)))) else (if t390 = 0 then (if t393 = true then (erratalaw02_TextBack.j0 k a0 a1 t383 t385 t386 t388 t389 t390 t391 t392 t393 false) else (erratalaw02_TextBack.j0 k a0 a1 t383 t385 t386 t388 t389 t390 t391 t392 t393 (t392.toList != ([] : List UInt8)))) else (erratalaw02_TextBack.j0 k a0 a1 t383 t385 t386 t388 t389 t390 t391 t392 t393 true))) = some r := H
    have A11 := Aside0.mk A110
    clear A110
    have HC12 := Aside0.mk H
    clear H
    go_enter Tryd.func5, Tryd.ntmps5
    go_upto_region 8 with (first | ((with_reducible refine gate_callee (f := 13) rfl ?_); refine goesL_ (some 14) rfl rfl Tryd.func13 (by kernel_rfl) rfl #[] rfl (by (try simp only [List.map_toArray, List.map_cons, List.map_nil]); first | done | rfl | (simp only [List.length_drop, List.length_take]; rfl)) ?_; (with_reducible refine (erratalaw02_small.calls k  t383 _ ?side1 A3.out).mono ?_); (case side1 => exact envB HE.out (by repeat (first | (with_reducible first | exact HB.out | apply below_alloc | apply pw_below_drewN | apply below_drew1) | exact HB.out))); rintro e w13 ⟨rfl, hb⟩; refine ⟨_, rfl, ?_⟩; have n0_ := Aside0.mk (below_step (by repeat (first | (with_reducible first | exact HB.out | apply below_alloc | apply pw_below_drewN | apply below_drew1) | exact HB.out)) hb); clear HB; have HB := n0_; clear n0_; (try clear hb); (try clear hb2); (try clear hk); (try clear hi)) | ((with_reducible refine gate_callee (f := 21) rfl ?_); refine goesL_ (some 21) rfl rfl Tryd.func21 (by kernel_rfl) rfl #[.int .i64 a0] rfl (by (try simp only [List.map_toArray, List.map_cons, List.map_nil]); first | done | rfl | (simp only [List.length_drop, List.length_take]; rfl)) ?_; (with_reducible refine (text_Decimal.calls a0 t384 _ ?side1 A6.out).mono ?_); (case side1 => exact envB HE.out (by repeat (first | (with_reducible first | exact HB.out | apply below_alloc | apply pw_below_drewN | apply below_drew1) | exact HB.out))); rintro e w14 ⟨rfl, hb⟩; refine ⟨_, rfl, ?_⟩; have n0_ := Aside0.mk (below_step (by repeat (first | (with_reducible first | exact HB.out | apply below_alloc | apply pw_below_drewN | apply below_drew1) | exact HB.out)) hb); clear HB; have HB := n0_; clear n0_; (try clear hb); (try clear hb2); (try clear hk); (try clear hi)) | ((with_reducible refine gate_callee (f := 20) rfl ?_); refine goesL_ (some 22) rfl rfl Tryd.func20 (by kernel_rfl) rfl #[.string t384] rfl (by (try simp only [List.map_toArray, List.map_cons, List.map_nil]); first | done | rfl | (simp only [List.length_drop, List.length_take]; rfl)) ?_; (with_reducible refine (text_Int.calls t384 t385 t386 _ ?side1 A7.out).mono ?_); (case side1 => exact envB HE.out (by repeat (first | (with_reducible first | exact HB.out | apply below_alloc | apply pw_below_drewN | apply below_drew1) | exact HB.out))); rintro e w15 ⟨rfl, hb⟩; refine ⟨_, rfl, ?_⟩; have n0_ := Aside0.mk (below_step (by repeat (first | (with_reducible first | exact HB.out | apply below_alloc | apply pw_below_drewN | apply below_drew1) | exact HB.out)) hb); clear HB; have HB := n0_; clear n0_; (try clear hb); (try clear hb2); (try clear hk); (try clear hi)) | ((with_reducible refine gate_callee (f := 23) rfl ?_); refine goesL_ (some 27) rfl rfl Tryd.func23 (by kernel_rfl) rfl #[.string a1] rfl (by (try simp only [List.map_toArray, List.map_cons, List.map_nil]); first | done | rfl | (simp only [List.length_drop, List.length_take]; rfl)) ?_; (with_reducible refine (text_Quote.calls a1 t387 _ A8.out).mono ?_); rintro e w16 ⟨rfl, hb⟩; refine ⟨_, rfl, ?_⟩; have n0_ := Aside0.mk (below_step (by repeat (first | (with_reducible first | exact HB.out | apply below_alloc | apply pw_below_drewN | apply below_drew1) | exact HB.out)) hb); clear HB; have HB := n0_; clear n0_; (try clear hb); (try clear hb2); (try clear hk); (try clear hi)) | ((with_reducible refine gate_callee (f := 22) rfl ?_); refine goesL_ (some 28) rfl rfl Tryd.func22 (by kernel_rfl) rfl #[.string t387] rfl (by (try simp only [List.map_toArray, List.map_cons, List.map_nil]); first | done | rfl | (simp only [List.length_drop, List.length_take]; rfl)) ?_; (with_reducible refine (text_Unquote.calls t387 t388 t389 _ A9.out).mono ?_); rintro e w17 ⟨rfl, hb⟩; refine ⟨_, rfl, ?_⟩; have n0_ := Aside0.mk (below_step (by repeat (first | (with_reducible first | exact HB.out | apply below_alloc | apply pw_below_drewN | apply below_drew1) | exact HB.out)) hb); clear HB; have HB := n0_; clear n0_; (try clear hb); (try clear hb2); (try clear hk); (try clear hi)) | ((with_reducible refine gate_callee (f := 20) rfl ?_); refine goesL_ (some 33) rfl rfl Tryd.func20 (by kernel_rfl) rfl #[.string a1] rfl (by (try simp only [List.map_toArray, List.map_cons, List.map_nil]); first | done | rfl | (simp only [List.length_drop, List.length_take]; rfl)) ?_; (with_reducible refine (text_Int.calls a1 t390 t391 _ ?side1 A10.out).mono ?_); (case side1 => exact envB HE.out (by repeat (first | (with_reducible first | exact HB.out | apply below_alloc | apply pw_below_drewN | apply below_drew1) | exact HB.out))); rintro e w18 ⟨rfl, hb⟩; refine ⟨_, rfl, ?_⟩; have n0_ := Aside0.mk (below_step (by repeat (first | (with_reducible first | exact HB.out | apply below_alloc | apply pw_below_drewN | apply below_drew1) | exact HB.out)) hb); clear HB; have HB := n0_; clear n0_; (try clear hb); (try clear hb2); (try clear hk); (try clear hi)) | ((with_reducible refine gate_callee (f := 22) rfl ?_); refine goesL_ (some 38) rfl rfl Tryd.func22 (by kernel_rfl) rfl #[.string a1] rfl (by (try simp only [List.map_toArray, List.map_cons, List.map_nil]); first | done | rfl | (simp only [List.length_drop, List.length_take]; rfl)) ?_; (with_reducible refine (text_Unquote.calls a1 t392 t393 _ A11.out).mono ?_); rintro e w19 ⟨rfl, hb⟩; refine ⟨_, rfl, ?_⟩; have n0_ := Aside0.mk (below_step (by repeat (first | (with_reducible first | exact HB.out | apply below_alloc | apply pw_below_drewN | apply below_drew1) | exact HB.out)) hb); clear HB; have HB := n0_; clear n0_; (try clear hb); (try clear hb2); (try clear hk); (try clear hi)))
    (try simp only [Act.put, List.setIfInBounds_toArray, List.set_cons_zero, List.set_cons_succ])
    go_cut [54] (fun v54 wc => ∃ (kq : Nat) (x54_11 : Bool), v54 = .bool x54_11 ∧ Aside0 (erratalaw02_TextBack.j0 kq a0 a1 t383 t385 t386 t388 t389 t390 t391 t392 t393 x54_11 = some r) ∧ Aside0 (kq ≤ k) ∧ Aside0 (Below w.heap.size w wc))
    case first =>
      have H := HC12.out
      clear HC12
      by_cases c20 : t391 = true
      · subst c20
        have H1 : (if t393 = true then (erratalaw02_TextBack.j0 k a0 a1 t383 t385 t386 t388 t389 t390 true t392 t393 false) else (erratalaw02_TextBack.j0 k a0 a1 t383 t385 t386 t388 t389 t390 true t392 t393 (t392.toList != ([] : List UInt8)))) = some r := by rw [if_pos rfl] at H; exact H
        clear H
        have H := H1
        clear H1
        by_cases c21 : t393 = true
        · subst c21
          have H1 : (erratalaw02_TextBack.j0 k a0 a1 t383 t385 t386 t388 t389 t390 true t392 true false) = some r := by rw [if_pos rfl] at H; exact H
          clear H
          have H := H1
          clear H1
          have H' := Aside0.mk H
          clear H
          go_wp2
          go_meet
          case rel => exact ⟨_, (false), (by first | rfl | (simp; done) | (simp [*]; done)), H', ⟨by first | omega | exact Nat.le_refl _⟩, ⟨by repeat (first | (with_reducible first | exact HB.out | apply below_alloc | apply pw_below_drewN | apply below_drew1) | exact HB.out)⟩⟩
        · replace c21 := Bool.eq_false_iff.mpr c21
          subst c21
          have H1 : (erratalaw02_TextBack.j0 k a0 a1 t383 t385 t386 t388 t389 t390 true t392 false (t392.toList != ([] : List UInt8))) = some r := by rw [if_neg (show ¬ (false = true) by decide)] at H; exact H
          clear H
          have H := H1
          clear H1
          have H' := Aside0.mk H
          clear H
          go_wp2
          go_meet
          case rel => exact ⟨_, ((t392.toList != ([] : List UInt8))), (by first | rfl | (simp; done) | (simp [*]; done) | (cases t392.toList <;> rfl)), H', ⟨by first | omega | exact Nat.le_refl _⟩, ⟨by repeat (first | (with_reducible first | exact HB.out | apply below_alloc | apply pw_below_drewN | apply below_drew1) | exact HB.out)⟩⟩
      · replace c20 := Bool.eq_false_iff.mpr c20
        subst c20
        have H1 : (if t390 = 0 then (if t393 = true then (erratalaw02_TextBack.j0 k a0 a1 t383 t385 t386 t388 t389 t390 false t392 t393 false) else (erratalaw02_TextBack.j0 k a0 a1 t383 t385 t386 t388 t389 t390 false t392 t393 (t392.toList != ([] : List UInt8)))) else (erratalaw02_TextBack.j0 k a0 a1 t383 t385 t386 t388 t389 t390 false t392 t393 true)) = some r := by rw [if_neg (show ¬ (false = true) by decide)] at H; exact H
        clear H
        have H := H1
        clear H1
        by_cases c22 : t390 = 0
        · rw [if_pos c22] at H
          have c22b0 : (t390 == 0) = true := beq_iff_eq.mpr c22
          have c22b1 : (t390 != 0) = false := bne_eq_false_iff_eq.mpr c22
          clear c22
          (first | rw [c22b0] | (simp only [i64_w, i32_w]; rw [c22b0]) | skip)
          by_cases c23 : t393 = true
          · subst c23
            have H1 : (erratalaw02_TextBack.j0 k a0 a1 t383 t385 t386 t388 t389 t390 false t392 true false) = some r := by rw [if_pos rfl] at H; exact H
            clear H
            have H := H1
            clear H1
            have H' := Aside0.mk H
            clear H
            go_wp2
            go_meet
            case rel => exact ⟨_, (false), (by first | rfl | (simp; done) | (simp [*]; done)), H', ⟨by first | omega | exact Nat.le_refl _⟩, ⟨by repeat (first | (with_reducible first | exact HB.out | apply below_alloc | apply pw_below_drewN | apply below_drew1) | exact HB.out)⟩⟩
          · replace c23 := Bool.eq_false_iff.mpr c23
            subst c23
            have H1 : (erratalaw02_TextBack.j0 k a0 a1 t383 t385 t386 t388 t389 t390 false t392 false (t392.toList != ([] : List UInt8))) = some r := by rw [if_neg (show ¬ (false = true) by decide)] at H; exact H
            clear H
            have H := H1
            clear H1
            have H' := Aside0.mk H
            clear H
            go_wp2
            go_meet
            case rel => exact ⟨_, ((t392.toList != ([] : List UInt8))), (by first | rfl | (simp; done) | (simp [*]; done) | (cases t392.toList <;> rfl)), H', ⟨by first | omega | exact Nat.le_refl _⟩, ⟨by repeat (first | (with_reducible first | exact HB.out | apply below_alloc | apply pw_below_drewN | apply below_drew1) | exact HB.out)⟩⟩
        · rw [if_neg c22] at H
          have c22b0 : (t390 == 0) = false := beq_eq_false_iff_ne.mpr c22
          have c22b1 : (t390 != 0) = true := bne_iff_ne.mpr c22
          (first | rw [c22b0] | (simp only [i64_w, i32_w]; rw [c22b0]) | skip)
          have H' := Aside0.mk H
          clear H
          go_wp2
          go_meet
          case rel => exact ⟨_, (true), (by first | rfl | (simp; done) | (simp [*]; done)), H', ⟨by first | omega | exact Nat.le_refl _⟩, ⟨by repeat (first | (with_reducible first | exact HB.out | apply below_alloc | apply pw_below_drewN | apply below_drew1) | exact HB.out)⟩⟩
    case rest =>
      clear HC12
      try clear c1
      try clear c2
      try clear p2
      try clear c4
      try clear c4b0
      try clear c4b1
      try clear c5
      try clear c13
      try clear c20
      try clear c21
      try clear c22
      try clear c22b0
      try clear c22b1
      try clear c23
      obtain ⟨kq, x54_11, rfl, HA, HJ11, HB⟩ := hcut
      cases kq with
      | zero => exact absurd HA.out (by simp [erratalaw02_TextBack.j0])
      | succ kj11 =>
        have H := HA.out
        clear HA
        simp only [erratalaw02_TextBack.j0] at H
        by_cases c24 : x54_11 = true
        · subst c24
          have H1 : (some false) = some r := by rw [if_pos rfl] at H; exact H
          clear H
          have H := H1
          clear H1
          obtain rfl := Option.some.inj H
          go_wp2
          go_ret
          exact ⟨by first | rfl | (simp [errW_none, errW_some] <;> rfl) | (simp [*, errW_none, errW_some] <;> rfl), by repeat (first | (with_reducible first | exact HB.out | apply below_alloc | apply pw_below_drewN | apply below_drew1) | exact HB.out)⟩
        · replace c24 := Bool.eq_false_iff.mpr c24
          subst c24
          have H1 : (if t383 = true then (if t386 = true then (if t385 = a0 then (if t389 = true then (if t388.toList = a1.toList then (if t391 = true then ((text_Decimal.f t390).bind fun t394 => (if t394.toList = a1.toList then (if t393 = true then ((text_Quote.f t392).bind fun t395 => (some (t395.toList == a1.toList))) else (some true)) else (some false))) else (if t393 = true then ((text_Quote.f t392).bind fun t396 => (some (t396.toList == a1.toList))) else (some true))) else (some false)) else (some false)) else (some false)) else (some false)) else (some false)) = some r := by rw [if_neg (show ¬ (false = true) by decide)] at H; exact H
          clear H
          have H := H1
          clear H1
          by_cases c25 : t383 = true
          · subst c25
            have H1 : (if t386 = true then (if t385 = a0 then (if t389 = true then (if t388.toList = a1.toList then (if t391 = true then ((text_Decimal.f t390).bind fun t394 => (if t394.toList = a1.toList then (if t393 = true then ((text_Quote.f t392).bind fun t395 => (some (t395.toList == a1.toList))) else (some true)) else (some false))) else (if t393 = true then ((text_Quote.f t392).bind fun t396 => (some (t396.toList == a1.toList))) else (some true))) else (some false)) else (some false)) else (some false)) else (some false)) = some r := by rw [if_pos rfl] at H; exact H
            clear H
            have H := H1
            clear H1
            by_cases c26 : t386 = true
            · subst c26
              have H1 : (if t385 = a0 then (if t389 = true then (if t388.toList = a1.toList then (if t391 = true then ((text_Decimal.f t390).bind fun t394 => (if t394.toList = a1.toList then (if t393 = true then ((text_Quote.f t392).bind fun t395 => (some (t395.toList == a1.toList))) else (some true)) else (some false))) else (if t393 = true then ((text_Quote.f t392).bind fun t396 => (some (t396.toList == a1.toList))) else (some true))) else (some false)) else (some false)) else (some false)) = some r := by rw [if_pos rfl] at H; exact H
              clear H
              have H := H1
              clear H1
              by_cases c27 : t385 = a0
              · rw [if_pos c27] at H
                have c27b0 : (t385 == a0) = true := beq_iff_eq.mpr c27
                have c27b1 : (t385 != a0) = false := bne_eq_false_iff_eq.mpr c27
                clear c27
                by_cases c28 : t389 = true
                · subst c28
                  have H1 : (if t388.toList = a1.toList then (if t391 = true then ((text_Decimal.f t390).bind fun t394 => (if t394.toList = a1.toList then (if t393 = true then ((text_Quote.f t392).bind fun t395 => (some (t395.toList == a1.toList))) else (some true)) else (some false))) else (if t393 = true then ((text_Quote.f t392).bind fun t396 => (some (t396.toList == a1.toList))) else (some true))) else (some false)) = some r := by rw [if_pos rfl] at H; exact H
                  clear H
                  have H := H1
                  clear H1
                  by_cases c29 : t388.toList = a1.toList
                  · rw [if_pos c29] at H
                    have c29b0 : (t388.toList == a1.toList) = true := beq_iff_eq.mpr c29
                    have c29b1 : (t388.toList != a1.toList) = false := bne_eq_false_iff_eq.mpr c29
                    clear c29
                    by_cases c30 : t391 = true
                    · subst c30
                      have H1 : ((text_Decimal.f t390).bind fun t394 => (if t394.toList = a1.toList then (if t393 = true then ((text_Quote.f t392).bind fun t395 => (some (t395.toList == a1.toList))) else (some true)) else (some false))) = some r := by rw [if_pos rfl] at H; exact H
                      clear H
                      have H := H1
                      clear H1
                      replace H := Option.bind_eq_some_iff.mp H
                      obtain ⟨t394, A310, H⟩ := H
                      replace H : (if t394.toList = a1.toList then (if t393 = true then ((text_Quote.f t392).bind fun t395 => (some (t395.toList == a1.toList))) else (some true)) else (some false)) = some r := H
                      have A31 := Aside0.mk A310
                      clear A310
                      by_cases c32 : t394.toList = a1.toList
                      · rw [if_pos c32] at H
                        have c32b0 : (t394.toList == a1.toList) = true := beq_iff_eq.mpr c32
                        have c32b1 : (t394.toList != a1.toList) = false := bne_eq_false_iff_eq.mpr c32
                        clear c32
                        by_cases c33 : t393 = true
                        · subst c33
                          have H1 : ((text_Quote.f t392).bind fun t395 => (some (t395.toList == a1.toList))) = some r := by rw [if_pos rfl] at H; exact H
                          clear H
                          have H := H1
                          clear H1
                          replace H := Option.bind_eq_some_iff.mp H
                          obtain ⟨t395, A340, H⟩ := H
                          replace H : (some (t395.toList == a1.toList)) = some r := H
                          have A34 := Aside0.mk A340
                          clear A340
                          obtain rfl := Option.some.inj H
                          go_wp2_with (first | (go_at_call 21; (with_reducible refine (text_Decimal.calls t390 t394 _ ?side1 A31.out).mono ?_); (case side1 => exact envB HE.out (by repeat (first | (with_reducible first | exact HB.out | apply below_alloc | apply pw_below_drewN | apply below_drew1) | exact HB.out))); rintro e w35 ⟨rfl, hb⟩; have n0_ := Aside0.mk (below_step (by repeat (first | (with_reducible first | exact HB.out | apply below_alloc | apply pw_below_drewN | apply below_drew1) | exact HB.out)) hb); clear HB; have HB := n0_; clear n0_; (try clear hb); (try clear hb2); (try clear hk); (try clear hi)) | (go_at_call 23; (with_reducible refine (text_Quote.calls t392 t395 _ A34.out).mono ?_); rintro e w36 ⟨rfl, hb⟩; have n0_ := Aside0.mk (below_step (by repeat (first | (with_reducible first | exact HB.out | apply below_alloc | apply pw_below_drewN | apply below_drew1) | exact HB.out)) hb); clear HB; have HB := n0_; clear n0_; (try clear hb); (try clear hb2); (try clear hk); (try clear hi)))
                          go_ret
                          exact ⟨by first | rfl | (simp [errW_none, errW_some] <;> rfl) | (simp [*, errW_none, errW_some] <;> rfl), by repeat (first | (with_reducible first | exact HB.out | apply below_alloc | apply pw_below_drewN | apply below_drew1) | exact HB.out)⟩
                        · replace c33 := Bool.eq_false_iff.mpr c33
                          subst c33
                          have H1 : (some true) = some r := by rw [if_neg (show ¬ (false = true) by decide)] at H; exact H
                          clear H
                          have H := H1
                          clear H1
                          obtain rfl := Option.some.inj H
                          go_wp2_with (first | (go_at_call 21; (with_reducible refine (text_Decimal.calls t390 t394 _ ?side1 A31.out).mono ?_); (case side1 => exact envB HE.out (by repeat (first | (with_reducible first | exact HB.out | apply below_alloc | apply pw_below_drewN | apply below_drew1) | exact HB.out))); rintro e w37 ⟨rfl, hb⟩; have n0_ := Aside0.mk (below_step (by repeat (first | (with_reducible first | exact HB.out | apply below_alloc | apply pw_below_drewN | apply below_drew1) | exact HB.out)) hb); clear HB; have HB := n0_; clear n0_; (try clear hb); (try clear hb2); (try clear hk); (try clear hi)))
                          go_ret
                          exact ⟨by first | rfl | (simp [errW_none, errW_some] <;> rfl) | (simp [*, errW_none, errW_some] <;> rfl), by repeat (first | (with_reducible first | exact HB.out | apply below_alloc | apply pw_below_drewN | apply below_drew1) | exact HB.out)⟩
                      · rw [if_neg c32] at H
                        have c32b0 : (t394.toList == a1.toList) = false := beq_eq_false_iff_ne.mpr c32
                        have c32b1 : (t394.toList != a1.toList) = true := bne_iff_ne.mpr c32
                        obtain rfl := Option.some.inj H
                        go_wp2_with (first | (go_at_call 21; (with_reducible refine (text_Decimal.calls t390 t394 _ ?side1 A31.out).mono ?_); (case side1 => exact envB HE.out (by repeat (first | (with_reducible first | exact HB.out | apply below_alloc | apply pw_below_drewN | apply below_drew1) | exact HB.out))); rintro e w38 ⟨rfl, hb⟩; have n0_ := Aside0.mk (below_step (by repeat (first | (with_reducible first | exact HB.out | apply below_alloc | apply pw_below_drewN | apply below_drew1) | exact HB.out)) hb); clear HB; have HB := n0_; clear n0_; (try clear hb); (try clear hb2); (try clear hk); (try clear hi)))
                        go_ret
                        exact ⟨by first | rfl | (simp [errW_none, errW_some] <;> rfl) | (simp [*, errW_none, errW_some] <;> rfl), by repeat (first | (with_reducible first | exact HB.out | apply below_alloc | apply pw_below_drewN | apply below_drew1) | exact HB.out)⟩
                    · replace c30 := Bool.eq_false_iff.mpr c30
                      subst c30
                      have H1 : (if t393 = true then ((text_Quote.f t392).bind fun t396 => (some (t396.toList == a1.toList))) else (some true)) = some r := by rw [if_neg (show ¬ (false = true) by decide)] at H; exact H
                      clear H
                      have H := H1
                      clear H1
                      by_cases c39 : t393 = true
                      · subst c39
                        have H1 : ((text_Quote.f t392).bind fun t396 => (some (t396.toList == a1.toList))) = some r := by rw [if_pos rfl] at H; exact H
                        clear H
                        have H := H1
                        clear H1
                        replace H := Option.bind_eq_some_iff.mp H
                        obtain ⟨t396, A400, H⟩ := H
                        replace H : (some (t396.toList == a1.toList)) = some r := H
                        have A40 := Aside0.mk A400
                        clear A400
                        obtain rfl := Option.some.inj H
                        go_wp2_with (first | (go_at_call 23; (with_reducible refine (text_Quote.calls t392 t396 _ A40.out).mono ?_); rintro e w41 ⟨rfl, hb⟩; have n0_ := Aside0.mk (below_step (by repeat (first | (with_reducible first | exact HB.out | apply below_alloc | apply pw_below_drewN | apply below_drew1) | exact HB.out)) hb); clear HB; have HB := n0_; clear n0_; (try clear hb); (try clear hb2); (try clear hk); (try clear hi)))
                        go_ret
                        exact ⟨by first | rfl | (simp [errW_none, errW_some] <;> rfl) | (simp [*, errW_none, errW_some] <;> rfl), by repeat (first | (with_reducible first | exact HB.out | apply below_alloc | apply pw_below_drewN | apply below_drew1) | exact HB.out)⟩
                      · replace c39 := Bool.eq_false_iff.mpr c39
                        subst c39
                        have H1 : (some true) = some r := by rw [if_neg (show ¬ (false = true) by decide)] at H; exact H
                        clear H
                        have H := H1
                        clear H1
                        obtain rfl := Option.some.inj H
                        go_wp2
                        go_ret
                        exact ⟨by first | rfl | (simp [errW_none, errW_some] <;> rfl) | (simp [*, errW_none, errW_some] <;> rfl), by repeat (first | (with_reducible first | exact HB.out | apply below_alloc | apply pw_below_drewN | apply below_drew1) | exact HB.out)⟩
                  · rw [if_neg c29] at H
                    have c29b0 : (t388.toList == a1.toList) = false := beq_eq_false_iff_ne.mpr c29
                    have c29b1 : (t388.toList != a1.toList) = true := bne_iff_ne.mpr c29
                    obtain rfl := Option.some.inj H
                    go_wp2
                    go_ret
                    exact ⟨by first | rfl | (simp [errW_none, errW_some] <;> rfl) | (simp [*, errW_none, errW_some] <;> rfl), by repeat (first | (with_reducible first | exact HB.out | apply below_alloc | apply pw_below_drewN | apply below_drew1) | exact HB.out)⟩
                · replace c28 := Bool.eq_false_iff.mpr c28
                  subst c28
                  have H1 : (some false) = some r := by rw [if_neg (show ¬ (false = true) by decide)] at H; exact H
                  clear H
                  have H := H1
                  clear H1
                  obtain rfl := Option.some.inj H
                  go_wp2
                  go_ret
                  exact ⟨by first | rfl | (simp [errW_none, errW_some] <;> rfl) | (simp [*, errW_none, errW_some] <;> rfl), by repeat (first | (with_reducible first | exact HB.out | apply below_alloc | apply pw_below_drewN | apply below_drew1) | exact HB.out)⟩
              · rw [if_neg c27] at H
                have c27b0 : (t385 == a0) = false := beq_eq_false_iff_ne.mpr c27
                have c27b1 : (t385 != a0) = true := bne_iff_ne.mpr c27
                obtain rfl := Option.some.inj H
                go_wp2
                go_ret
                exact ⟨by first | rfl | (simp [errW_none, errW_some] <;> rfl) | (simp [*, errW_none, errW_some] <;> rfl), by repeat (first | (with_reducible first | exact HB.out | apply below_alloc | apply pw_below_drewN | apply below_drew1) | exact HB.out)⟩
            · replace c26 := Bool.eq_false_iff.mpr c26
              subst c26
              have H1 : (some false) = some r := by rw [if_neg (show ¬ (false = true) by decide)] at H; exact H
              clear H
              have H := H1
              clear H1
              obtain rfl := Option.some.inj H
              go_wp2
              go_ret
              exact ⟨by first | rfl | (simp [errW_none, errW_some] <;> rfl) | (simp [*, errW_none, errW_some] <;> rfl), by repeat (first | (with_reducible first | exact HB.out | apply below_alloc | apply pw_below_drewN | apply below_drew1) | exact HB.out)⟩
          · replace c25 := Bool.eq_false_iff.mpr c25
            subst c25
            have H1 : (some false) = some r := by rw [if_neg (show ¬ (false = true) by decide)] at H; exact H
            clear H
            have H := H1
            clear H1
            obtain rfl := Option.some.inj H
            go_wp2
            go_ret
            exact ⟨by first | rfl | (simp [errW_none, errW_some] <;> rfl) | (simp [*, errW_none, errW_some] <;> rfl), by repeat (first | (with_reducible first | exact HB.out | apply below_alloc | apply pw_below_drewN | apply below_drew1) | exact HB.out)⟩

/-! ### erratalaw02_TextPlain: function 6 -/
mutual
def erratalaw02_TextPlain.j0 : Nat → ByteArray → ByteArray → Bool → Bool → Option (Bool)
  | 0, _, _, _, _ => none
  | k + 1, x0, x1, x5, x15 => if x15 = true then (some x5) else ((text_Escape.f x1).bind fun t398 => ((text_Magic.f k x0).bind fun t399 => (if t399 = true then (erratalaw02_TextPlain.j1 k x1 x5 t398 false) else ((text_Plain.f x0).bind fun t400 => ((text_Pattern.f x0 t400).bind fun t401 => (if t401 = true then ((text_Pattern.f x0 x1).bind fun t402 => ((text_Plain.f x0).bind fun t403 => (erratalaw02_TextPlain.j1 k x1 x5 t398 (t402 != (x1.toList == t403.toList))))) else (erratalaw02_TextPlain.j1 k x1 x5 t398 true)))))))
def erratalaw02_TextPlain.j1 : Nat → ByteArray → Bool → ByteArray → Bool → Option (Bool)
  | 0, _, _, _, _ => none
  | k + 1, x1, x5, x6, x38 => if x38 = true then (some false) else (if x5 = true then ((text_Magic.f k x6).bind fun t404 => (if t404 = true then (some false) else ((text_Plain.f x6).bind fun t405 => (if t405.toList = x1.toList then ((text_Pattern.f x6 x1).bind fun t406 => (some t406)) else (some false))))) else (some false))
end
def erratalaw02_TextPlain.f (k : Nat) (a0 : ByteArray) (a1 : ByteArray) : Option (Bool) := (erratalaw02_small.f k).bind fun t397 => (if (a0.size : Int) > 100 then (erratalaw02_TextPlain.j0 k a0 a1 t397 true) else (erratalaw02_TextPlain.j0 k a0 a1 t397 (decide ((a1.size : Int) > 300))))
theorem erratalaw02_TextPlain.mono_l : ∀ k, (∀ y0 y1 y2 y3, LeO (erratalaw02_TextPlain.j0 k y0 y1 y2 y3) (erratalaw02_TextPlain.j0 (k + 1) y0 y1 y2 y3)) ∧ (∀ y0 y1 y2 y3, LeO (erratalaw02_TextPlain.j1 k y0 y1 y2 y3) (erratalaw02_TextPlain.j1 (k + 1) y0 y1 y2 y3))
  | 0 => ⟨fun _ _ _ _ r h => by simp [erratalaw02_TextPlain.j0] at h, fun _ _ _ _ r h => by simp [erratalaw02_TextPlain.j1] at h⟩
  | k + 1 => by
    obtain ⟨ih0, ih1⟩ := erratalaw02_TextPlain.mono_l k
    refine ⟨?_, ?_⟩
    · intro y0 y1 y2 y3
      unfold erratalaw02_TextPlain.j0
      repeat' first
      | (with_reducible exact ih0 _ _ _ _)
      | (with_reducible exact ih1 _ _ _ _)
      | (with_reducible exact erratalaw02_small.mono _)
      | (with_reducible exact text_Magic.mono _ _)
      | (with_reducible exact LeO.refl _)
      | (with_reducible exact LeO.none _)
      | (with_reducible refine LeO.ite ?_ ?_)
      | (with_reducible refine LeO.bind ?_ (fun _ => ?_))
      | exact ih0 _ _ _ _
      | exact ih1 _ _ _ _
      | exact erratalaw02_small.mono _
      | exact text_Magic.mono _ _
      | exact LeO.none _
      | refine LeO.ite ?_ ?_
      | refine LeO.bind ?_ (fun _ => ?_)
    · intro y0 y1 y2 y3
      unfold erratalaw02_TextPlain.j1
      repeat' first
      | (with_reducible exact ih0 _ _ _ _)
      | (with_reducible exact ih1 _ _ _ _)
      | (with_reducible exact erratalaw02_small.mono _)
      | (with_reducible exact text_Magic.mono _ _)
      | (with_reducible exact LeO.refl _)
      | (with_reducible exact LeO.none _)
      | (with_reducible refine LeO.ite ?_ ?_)
      | (with_reducible refine LeO.bind ?_ (fun _ => ?_))
      | exact ih0 _ _ _ _
      | exact ih1 _ _ _ _
      | exact erratalaw02_small.mono _
      | exact text_Magic.mono _ _
      | exact LeO.none _
      | refine LeO.ite ?_ ?_
      | refine LeO.bind ?_ (fun _ => ?_)
theorem erratalaw02_TextPlain.mono : ∀ a0 a1 k, LeO (erratalaw02_TextPlain.f k a0 a1) (erratalaw02_TextPlain.f (k + 1) a0 a1) := by
  intro a0 a1 k
  obtain ⟨ih0, ih1⟩ := erratalaw02_TextPlain.mono_l k
  unfold erratalaw02_TextPlain.f
  repeat' first
      | (with_reducible exact ih0 _ _ _ _)
      | (with_reducible exact ih1 _ _ _ _)
      | (with_reducible exact erratalaw02_small.mono _)
      | (with_reducible exact text_Magic.mono _ _)
      | (with_reducible exact LeO.refl _)
      | (with_reducible exact LeO.none _)
      | (with_reducible refine LeO.ite ?_ ?_)
      | (with_reducible refine LeO.bind ?_ (fun _ => ?_))
      | exact ih0 _ _ _ _
      | exact ih1 _ _ _ _
      | exact erratalaw02_small.mono _
      | exact text_Magic.mono _ _
      | exact LeO.none _
      | refine LeO.ite ?_ ?_
      | refine LeO.bind ?_ (fun _ => ?_)
set_option maxHeartbeats 8000000 in
set_option maxRecDepth 100000 in
theorem erratalaw02_TextPlain.calls (k : Nat) (a0 : ByteArray) (a1 : ByteArray) (r : Bool) (w : World) (hE : Env w) (h : erratalaw02_TextPlain.f k a0 a1 = some r) :
    Calls Tryd.prog 6 #[.string a0, .string a1] w fun e w' => e = .returned (.bool r) ∧ Below w.heap.size w w' := by
  have HB := Aside0.mk (Below.refl w.heap.size w)
  have HE := Aside0.mk hE
  clear hE
  have H : ((erratalaw02_small.f k).bind fun t397 => (if (a0.size : Int) > 100 then (erratalaw02_TextPlain.j0 k a0 a1 t397 true) else (erratalaw02_TextPlain.j0 k a0 a1 t397 (decide ((a1.size : Int) > 300))))) = some r := h
  clear h
  replace H := Option.bind_eq_some_iff.mp H
  obtain ⟨t397, A30, H⟩ := H
  replace H : (if (a0.size : Int) > 100 then (erratalaw02_TextPlain.j0 k a0 a1 t397 true) else (erratalaw02_TextPlain.j0 k a0 a1 t397 (decide ((a1.size : Int) > 300)))) = some r := H
  have A3 := Aside0.mk A30
  clear A30
  have HC4 := Aside0.mk H
  clear H
  go_enter Tryd.func6, Tryd.ntmps6
  go_upto_region 2 with (first | ((with_reducible refine gate_callee (f := 13) rfl ?_); refine goesL_ (some 7) rfl rfl Tryd.func13 (by kernel_rfl) rfl #[] rfl (by (try simp only [List.map_toArray, List.map_cons, List.map_nil]); first | done | rfl | (simp only [List.length_drop, List.length_take]; rfl)) ?_; (with_reducible refine (erratalaw02_small.calls k  t397 _ ?side1 A3.out).mono ?_); (case side1 => exact envB HE.out (by repeat (first | (with_reducible first | exact HB.out | apply below_alloc | apply pw_below_drewN | apply below_drew1) | exact HB.out))); rintro e w5 ⟨rfl, hb⟩; refine ⟨_, rfl, ?_⟩; have n0_ := Aside0.mk (below_step (by repeat (first | (with_reducible first | exact HB.out | apply below_alloc | apply pw_below_drewN | apply below_drew1) | exact HB.out)) hb); clear HB; have HB := n0_; clear n0_; (try clear hb); (try clear hb2); (try clear hk); (try clear hi)))
  (try simp only [Act.put, List.setIfInBounds_toArray, List.set_cons_zero, List.set_cons_succ])
  go_cut [15] (fun v15 wc => ∃ (kq : Nat) (x15_3 : Bool), v15 = .bool x15_3 ∧ Aside0 (erratalaw02_TextPlain.j0 kq a0 a1 t397 x15_3 = some r) ∧ Aside0 (kq ≤ k) ∧ Aside0 (Below w.heap.size w wc))
  case first =>
    have H := HC4.out
    clear HC4
    by_cases c6 : (a0.size : Int) > 100
    · rw [if_pos c6] at H
      have c6b0 : decide (100 < (a0.size : Int)) = true := decide_eq_true c6
      have c6b1 : decide (100 < a0.size) = true := decide_eq_true (by omega)
      clear c6
      (first | rw [c6b0] | (simp only [i64_w, i32_w]; rw [c6b0]) | skip)
      have H' := Aside0.mk H
      clear H
      go_wp2
      go_meet
      case rel => exact ⟨_, (true), (by first | rfl | (simp; done) | (simp [*]; done)), H', ⟨by first | omega | exact Nat.le_refl _⟩, ⟨by repeat (first | (with_reducible first | exact HB.out | apply below_alloc | apply pw_below_drewN | apply below_drew1) | exact HB.out)⟩⟩
    · rw [if_neg c6] at H
      have c6b0 : decide (100 < (a0.size : Int)) = false := decide_eq_false c6
      have c6b1 : decide (100 < a0.size) = false := decide_eq_false (by omega)
      clear c6
      (first | rw [c6b0] | (simp only [i64_w, i32_w]; rw [c6b0]) | skip)
      have H' := Aside0.mk H
      clear H
      go_wp2
      go_meet
      case rel => exact ⟨_, (decide ((a1.size : Int) > 300)), (by first | rfl | (simp; done) | (simp [*]; done)), H', ⟨by first | omega | exact Nat.le_refl _⟩, ⟨by repeat (first | (with_reducible first | exact HB.out | apply below_alloc | apply pw_below_drewN | apply below_drew1) | exact HB.out)⟩⟩
  case rest =>
    clear HC4
    try clear c1
    try clear p2
    try clear c6
    try clear c6b0
    try clear c6b1
    obtain ⟨kq, x15_3, rfl, HA, HJ3, HB⟩ := hcut
    cases kq with
    | zero => exact absurd HA.out (by simp [erratalaw02_TextPlain.j0])
    | succ kj3 =>
      have H := HA.out
      clear HA
      simp only [erratalaw02_TextPlain.j0] at H
      by_cases c7 : x15_3 = true
      · subst c7
        have H1 : (some t397) = some r := by rw [if_pos rfl] at H; exact H
        clear H
        have H := H1
        clear H1
        obtain rfl := Option.some.inj H
        go_wp2
        go_ret
        exact ⟨by first | rfl | (simp [errW_none, errW_some] <;> rfl) | (simp [*, errW_none, errW_some] <;> rfl), by repeat (first | (with_reducible first | exact HB.out | apply below_alloc | apply pw_below_drewN | apply below_drew1) | exact HB.out)⟩
      · replace c7 := Bool.eq_false_iff.mpr c7
        subst c7
        have H1 : ((text_Escape.f a1).bind fun t398 => ((text_Magic.f kj3 a0).bind fun t399 => (if t399 = true then (erratalaw02_TextPlain.j1 kj3 a1 t397 t398 false) else ((text_Plain.f a0).bind fun t400 => ((text_Pattern.f a0 t400).bind fun t401 => (if t401 = true then ((text_Pattern.f a0 a1).bind fun t402 => ((text_Plain.f a0).bind fun t403 => (erratalaw02_TextPlain.j1 kj3 a1 t397 t398 (t402 != (a1.toList == t403.toList))))) else (erratalaw02_TextPlain.j1 kj3 a1 t397 t398 true))))))) = some r := by rw [if_neg (show ¬ (false = true) by decide)] at H; exact H
        clear H
        have H := H1
        clear H1
        replace H := Option.bind_eq_some_iff.mp H
        obtain ⟨t398, A80, H⟩ := H
        replace H : ((text_Magic.f kj3 a0).bind fun t399 => (if t399 = true then (erratalaw02_TextPlain.j1 kj3 a1 t397 t398 false) else ((text_Plain.f a0).bind fun t400 => ((text_Pattern.f a0 t400).bind fun t401 => (if t401 = true then ((text_Pattern.f a0 a1).bind fun t402 => ((text_Plain.f a0).bind fun t403 => (erratalaw02_TextPlain.j1 kj3 a1 t397 t398 (t402 != (a1.toList == t403.toList))))) else (erratalaw02_TextPlain.j1 kj3 a1 t397 t398 true)))))) = some r := H
        have A8 := Aside0.mk A80
        clear A80
        have HC9 := Aside0.mk H
        clear H
        go_upto_region 5 with (first | ((with_reducible refine gate_callee (f := 19) rfl ?_); refine goesL_ (some 18) rfl rfl Tryd.func19 (by kernel_rfl) rfl #[.string a1] rfl (by (try simp only [List.map_toArray, List.map_cons, List.map_nil]); first | done | rfl | (simp only [List.length_drop, List.length_take]; rfl)) ?_; (with_reducible refine (text_Escape.calls a1 t398 _ A8.out).mono ?_); rintro e w10 ⟨rfl, hb⟩; refine ⟨_, rfl, ?_⟩; have n0_ := Aside0.mk (below_step (by repeat (first | (with_reducible first | exact HB.out | apply below_alloc | apply pw_below_drewN | apply below_drew1) | exact HB.out)) hb); clear HB; have HB := n0_; clear n0_; (try clear hb); (try clear hb2); (try clear hk); (try clear hi)))
        (try simp only [Act.put, List.setIfInBounds_toArray, List.set_cons_zero, List.set_cons_succ])
        go_cut [38] (fun v38 wc => ∃ (kq : Nat) (x38_8 : Bool), v38 = .bool x38_8 ∧ Aside0 (erratalaw02_TextPlain.j1 kq a1 t397 t398 x38_8 = some r) ∧ Aside0 (kq ≤ kj3) ∧ Aside0 (Below w.heap.size w wc))
        case first =>
          have H := HC9.out
          clear HC9
          replace H := Option.bind_eq_some_iff.mp H
          obtain ⟨t399, A110, H⟩ := H
          replace H : (if t399 = true then (erratalaw02_TextPlain.j1 kj3 a1 t397 t398 false) else ((text_Plain.f a0).bind fun t400 => ((text_Pattern.f a0 t400).bind fun t401 => (if t401 = true then ((text_Pattern.f a0 a1).bind fun t402 => ((text_Plain.f a0).bind fun t403 => (erratalaw02_TextPlain.j1 kj3 a1 t397 t398 (t402 != (a1.toList == t403.toList))))) else (erratalaw02_TextPlain.j1 kj3 a1 t397 t398 true))))) = some r := H
          have A11 := Aside0.mk A110
          clear A110
          by_cases c12 : t399 = true
          · subst c12
            have H1 : (erratalaw02_TextPlain.j1 kj3 a1 t397 t398 false) = some r := by rw [if_pos rfl] at H; exact H
            clear H
            have H := H1
            clear H1
            have H' := Aside0.mk H
            clear H
            go_wp2_with (first | ((with_reducible refine gate_callee (f := 24) rfl ?_); refine goesL_ (some 20) rfl rfl Tryd.func24 (by kernel_rfl) rfl #[.string a0] rfl (by (try simp only [List.map_toArray, List.map_cons, List.map_nil]); first | done | rfl | (simp only [List.length_drop, List.length_take]; rfl)) ?_; (with_reducible refine (text_Magic.calls kj3 a0 true _ A11.out).mono ?_); rintro e w13 ⟨rfl, hb⟩; refine ⟨_, rfl, ?_⟩; have n0_ := Aside0.mk (below_step (by repeat (first | (with_reducible first | exact HB.out | apply below_alloc | apply pw_below_drewN | apply below_drew1) | exact HB.out)) hb); clear HB; have HB := n0_; clear n0_; (try clear hb); (try clear hb2); (try clear hk); (try clear hi)))
            go_meet
            case rel => exact ⟨_, (false), (by first | rfl | (simp; done) | (simp [*]; done)), H', ⟨by have := HJ3.out; first | omega | exact Nat.le_refl _⟩, ⟨by repeat (first | (with_reducible first | exact HB.out | apply below_alloc | apply pw_below_drewN | apply below_drew1) | exact HB.out)⟩⟩
          · replace c12 := Bool.eq_false_iff.mpr c12
            subst c12
            have H1 : ((text_Plain.f a0).bind fun t400 => ((text_Pattern.f a0 t400).bind fun t401 => (if t401 = true then ((text_Pattern.f a0 a1).bind fun t402 => ((text_Plain.f a0).bind fun t403 => (erratalaw02_TextPlain.j1 kj3 a1 t397 t398 (t402 != (a1.toList == t403.toList))))) else (erratalaw02_TextPlain.j1 kj3 a1 t397 t398 true)))) = some r := by rw [if_neg (show ¬ (false = true) by decide)] at H; exact H
            clear H
            have H := H1
            clear H1
            replace H := Option.bind_eq_some_iff.mp H
            obtain ⟨t400, A140, H⟩ := H
            replace H : ((text_Pattern.f a0 t400).bind fun t401 => (if t401 = true then ((text_Pattern.f a0 a1).bind fun t402 => ((text_Plain.f a0).bind fun t403 => (erratalaw02_TextPlain.j1 kj3 a1 t397 t398 (t402 != (a1.toList == t403.toList))))) else (erratalaw02_TextPlain.j1 kj3 a1 t397 t398 true))) = some r := H
            have A14 := Aside0.mk A140
            clear A140
            replace H := Option.bind_eq_some_iff.mp H
            obtain ⟨t401, A150, H⟩ := H
            replace H : (if t401 = true then ((text_Pattern.f a0 a1).bind fun t402 => ((text_Plain.f a0).bind fun t403 => (erratalaw02_TextPlain.j1 kj3 a1 t397 t398 (t402 != (a1.toList == t403.toList))))) else (erratalaw02_TextPlain.j1 kj3 a1 t397 t398 true)) = some r := H
            have A15 := Aside0.mk A150
            clear A150
            by_cases c16 : t401 = true
            · subst c16
              have H1 : ((text_Pattern.f a0 a1).bind fun t402 => ((text_Plain.f a0).bind fun t403 => (erratalaw02_TextPlain.j1 kj3 a1 t397 t398 (t402 != (a1.toList == t403.toList))))) = some r := by rw [if_pos rfl] at H; exact H
              clear H
              have H := H1
              clear H1
              replace H := Option.bind_eq_some_iff.mp H
              obtain ⟨t402, A170, H⟩ := H
              replace H : ((text_Plain.f a0).bind fun t403 => (erratalaw02_TextPlain.j1 kj3 a1 t397 t398 (t402 != (a1.toList == t403.toList)))) = some r := H
              have A17 := Aside0.mk A170
              clear A170
              replace H := Option.bind_eq_some_iff.mp H
              obtain ⟨t403, A180, H⟩ := H
              replace H : (erratalaw02_TextPlain.j1 kj3 a1 t397 t398 (t402 != (a1.toList == t403.toList))) = some r := H
              have A18 := Aside0.mk A180
              clear A180
              have H' := Aside0.mk H
              clear H
              go_wp2_with (first | ((with_reducible refine gate_callee (f := 24) rfl ?_); refine goesL_ (some 20) rfl rfl Tryd.func24 (by kernel_rfl) rfl #[.string a0] rfl (by (try simp only [List.map_toArray, List.map_cons, List.map_nil]); first | done | rfl | (simp only [List.length_drop, List.length_take]; rfl)) ?_; (with_reducible refine (text_Magic.calls kj3 a0 false _ A11.out).mono ?_); rintro e w19 ⟨rfl, hb⟩; refine ⟨_, rfl, ?_⟩; have n0_ := Aside0.mk (below_step (by repeat (first | (with_reducible first | exact HB.out | apply below_alloc | apply pw_below_drewN | apply below_drew1) | exact HB.out)) hb); clear HB; have HB := n0_; clear n0_; (try clear hb); (try clear hb2); (try clear hk); (try clear hi)) | (go_at_call 25; (with_reducible refine (text_Plain.calls a0 t400 _ A14.out).mono ?_); rintro e w20 ⟨rfl, hb⟩; have n0_ := Aside0.mk (below_step (by repeat (first | (with_reducible first | exact HB.out | apply below_alloc | apply pw_below_drewN | apply below_drew1) | exact HB.out)) hb); clear HB; have HB := n0_; clear n0_; (try clear hb); (try clear hb2); (try clear hk); (try clear hi)) | (go_at_call 18; (with_reducible refine (text_Pattern.calls a0 t400 true _ A15.out).mono ?_); rintro e w21 ⟨rfl, hb⟩; have n0_ := Aside0.mk (below_step (by repeat (first | (with_reducible first | exact HB.out | apply below_alloc | apply pw_below_drewN | apply below_drew1) | exact HB.out)) hb); clear HB; have HB := n0_; clear n0_; (try clear hb); (try clear hb2); (try clear hk); (try clear hi)) | (go_at_call 18; (with_reducible refine (text_Pattern.calls a0 a1 t402 _ A17.out).mono ?_); rintro e w22 ⟨rfl, hb⟩; have n0_ := Aside0.mk (below_step (by repeat (first | (with_reducible first | exact HB.out | apply below_alloc | apply pw_below_drewN | apply below_drew1) | exact HB.out)) hb); clear HB; have HB := n0_; clear n0_; (try clear hb); (try clear hb2); (try clear hk); (try clear hi)) | (go_at_call 25; (with_reducible refine (text_Plain.calls a0 t403 _ A18.out).mono ?_); rintro e w23 ⟨rfl, hb⟩; have n0_ := Aside0.mk (below_step (by repeat (first | (with_reducible first | exact HB.out | apply below_alloc | apply pw_below_drewN | apply below_drew1) | exact HB.out)) hb); clear HB; have HB := n0_; clear n0_; (try clear hb); (try clear hb2); (try clear hk); (try clear hi)))
              go_meet
              case rel => exact ⟨_, ((t402 != (a1.toList == t403.toList))), (by first | rfl | (simp; done) | (simp [*]; done) | (have e_ := Option.some.inj (A14.out.symm.trans A18.out); subst e_; first | rfl | (simp; done))), H', ⟨by have := HJ3.out; first | omega | exact Nat.le_refl _⟩, ⟨by repeat (first | (with_reducible first | exact HB.out | apply below_alloc | apply pw_below_drewN | apply below_drew1) | exact HB.out)⟩⟩
            · replace c16 := Bool.eq_false_iff.mpr c16
              subst c16
              have H1 : (erratalaw02_TextPlain.j1 kj3 a1 t397 t398 true) = some r := by rw [if_neg (show ¬ (false = true) by decide)] at H; exact H
              clear H
              have H := H1
              clear H1
              have H' := Aside0.mk H
              clear H
              go_wp2_with (first | ((with_reducible refine gate_callee (f := 24) rfl ?_); refine goesL_ (some 20) rfl rfl Tryd.func24 (by kernel_rfl) rfl #[.string a0] rfl (by (try simp only [List.map_toArray, List.map_cons, List.map_nil]); first | done | rfl | (simp only [List.length_drop, List.length_take]; rfl)) ?_; (with_reducible refine (text_Magic.calls kj3 a0 false _ A11.out).mono ?_); rintro e w24 ⟨rfl, hb⟩; refine ⟨_, rfl, ?_⟩; have n0_ := Aside0.mk (below_step (by repeat (first | (with_reducible first | exact HB.out | apply below_alloc | apply pw_below_drewN | apply below_drew1) | exact HB.out)) hb); clear HB; have HB := n0_; clear n0_; (try clear hb); (try clear hb2); (try clear hk); (try clear hi)) | (go_at_call 25; (with_reducible refine (text_Plain.calls a0 t400 _ A14.out).mono ?_); rintro e w25 ⟨rfl, hb⟩; have n0_ := Aside0.mk (below_step (by repeat (first | (with_reducible first | exact HB.out | apply below_alloc | apply pw_below_drewN | apply below_drew1) | exact HB.out)) hb); clear HB; have HB := n0_; clear n0_; (try clear hb); (try clear hb2); (try clear hk); (try clear hi)) | (go_at_call 18; (with_reducible refine (text_Pattern.calls a0 t400 false _ A15.out).mono ?_); rintro e w26 ⟨rfl, hb⟩; have n0_ := Aside0.mk (below_step (by repeat (first | (with_reducible first | exact HB.out | apply below_alloc | apply pw_below_drewN | apply below_drew1) | exact HB.out)) hb); clear HB; have HB := n0_; clear n0_; (try clear hb); (try clear hb2); (try clear hk); (try clear hi)))
              go_meet
              case rel => exact ⟨_, (true), (by first | rfl | (simp; done) | (simp [*]; done)), H', ⟨by have := HJ3.out; first | omega | exact Nat.le_refl _⟩, ⟨by repeat (first | (with_reducible first | exact HB.out | apply below_alloc | apply pw_below_drewN | apply below_drew1) | exact HB.out)⟩⟩
        case rest =>
          clear HC9
          try clear c1
          try clear c2
          try clear p2
          try clear c6
          try clear c6b0
          try clear c6b1
          try clear c7
          try clear c12
          try clear c13
          try clear c16
          try clear c19
          try clear c24
          try clear p2
          obtain ⟨kq, x38_8, rfl, HA, HJ8, HB⟩ := hcut
          cases kq with
          | zero => exact absurd HA.out (by simp [erratalaw02_TextPlain.j1])
          | succ kj8 =>
            have H := HA.out
            clear HA
            simp only [erratalaw02_TextPlain.j1] at H
            by_cases c27 : x38_8 = true
            · subst c27
              have H1 : (some false) = some r := by rw [if_pos rfl] at H; exact H
              clear H
              have H := H1
              clear H1
              obtain rfl := Option.some.inj H
              go_wp2
              go_ret
              exact ⟨by first | rfl | (simp [errW_none, errW_some] <;> rfl) | (simp [*, errW_none, errW_some] <;> rfl), by repeat (first | (with_reducible first | exact HB.out | apply below_alloc | apply pw_below_drewN | apply below_drew1) | exact HB.out)⟩
            · replace c27 := Bool.eq_false_iff.mpr c27
              subst c27
              have H1 : (if t397 = true then ((text_Magic.f kj8 t398).bind fun t404 => (if t404 = true then (some false) else ((text_Plain.f t398).bind fun t405 => (if t405.toList = a1.toList then ((text_Pattern.f t398 a1).bind fun t406 => (some t406)) else (some false))))) else (some false)) = some r := by rw [if_neg (show ¬ (false = true) by decide)] at H; exact H
              clear H
              have H := H1
              clear H1
              by_cases c28 : t397 = true
              · subst c28
                have H1 : ((text_Magic.f kj8 t398).bind fun t404 => (if t404 = true then (some false) else ((text_Plain.f t398).bind fun t405 => (if t405.toList = a1.toList then ((text_Pattern.f t398 a1).bind fun t406 => (some t406)) else (some false))))) = some r := by rw [if_pos rfl] at H; exact H
                clear H
                have H := H1
                clear H1
                replace H := Option.bind_eq_some_iff.mp H
                obtain ⟨t404, A290, H⟩ := H
                replace H : (if t404 = true then (some false) else ((text_Plain.f t398).bind fun t405 => (if t405.toList = a1.toList then ((text_Pattern.f t398 a1).bind fun t406 => (some t406)) else (some false)))) = some r := H
                have A29 := Aside0.mk A290
                clear A290
                by_cases c30 : t404 = true
                · subst c30
                  have H1 : (some false) = some r := by rw [if_pos rfl] at H; exact H
                  clear H
                  have H := H1
                  clear H1
                  obtain rfl := Option.some.inj H
                  go_wp2_with (first | (go_at_call 24; (with_reducible refine (text_Magic.calls kj8 t398 true _ A29.out).mono ?_); rintro e w31 ⟨rfl, hb⟩; have n0_ := Aside0.mk (below_step (by repeat (first | (with_reducible first | exact HB.out | apply below_alloc | apply pw_below_drewN | apply below_drew1) | exact HB.out)) hb); clear HB; have HB := n0_; clear n0_; (try clear hb); (try clear hb2); (try clear hk); (try clear hi)))
                  go_ret
                  exact ⟨by first | rfl | (simp [errW_none, errW_some] <;> rfl) | (simp [*, errW_none, errW_some] <;> rfl), by repeat (first | (with_reducible first | exact HB.out | apply below_alloc | apply pw_below_drewN | apply below_drew1) | exact HB.out)⟩
                · replace c30 := Bool.eq_false_iff.mpr c30
                  subst c30
                  have H1 : ((text_Plain.f t398).bind fun t405 => (if t405.toList = a1.toList then ((text_Pattern.f t398 a1).bind fun t406 => (some t406)) else (some false))) = some r := by rw [if_neg (show ¬ (false = true) by decide)] at H; exact H
                  clear H
                  have H := H1
                  clear H1
                  replace H := Option.bind_eq_some_iff.mp H
                  obtain ⟨t405, A320, H⟩ := H
                  replace H : (if t405.toList = a1.toList then ((text_Pattern.f t398 a1).bind fun t406 => (some t406)) else (some false)) = some r := H
                  have A32 := Aside0.mk A320
                  clear A320
                  by_cases c33 : t405.toList = a1.toList
                  · rw [if_pos c33] at H
                    have c33b0 : (t405.toList == a1.toList) = true := beq_iff_eq.mpr c33
                    have c33b1 : (t405.toList != a1.toList) = false := bne_eq_false_iff_eq.mpr c33
                    clear c33
                    replace H := Option.bind_eq_some_iff.mp H
                    obtain ⟨t406, A340, H⟩ := H
                    replace H : (some t406) = some r := H
                    have A34 := Aside0.mk A340
                    clear A340
                    obtain rfl := Option.some.inj H
                    go_wp2_with (first | (go_at_call 24; (with_reducible refine (text_Magic.calls kj8 t398 false _ A29.out).mono ?_); rintro e w35 ⟨rfl, hb⟩; have n0_ := Aside0.mk (below_step (by repeat (first | (with_reducible first | exact HB.out | apply below_alloc | apply pw_below_drewN | apply below_drew1) | exact HB.out)) hb); clear HB; have HB := n0_; clear n0_; (try clear hb); (try clear hb2); (try clear hk); (try clear hi)) | (go_at_call 25; (with_reducible refine (text_Plain.calls t398 t405 _ A32.out).mono ?_); rintro e w36 ⟨rfl, hb⟩; have n0_ := Aside0.mk (below_step (by repeat (first | (with_reducible first | exact HB.out | apply below_alloc | apply pw_below_drewN | apply below_drew1) | exact HB.out)) hb); clear HB; have HB := n0_; clear n0_; (try clear hb); (try clear hb2); (try clear hk); (try clear hi)) | (go_at_call 18; (with_reducible refine (text_Pattern.calls t398 a1 t406 _ A34.out).mono ?_); rintro e w37 ⟨rfl, hb⟩; have n0_ := Aside0.mk (below_step (by repeat (first | (with_reducible first | exact HB.out | apply below_alloc | apply pw_below_drewN | apply below_drew1) | exact HB.out)) hb); clear HB; have HB := n0_; clear n0_; (try clear hb); (try clear hb2); (try clear hk); (try clear hi)))
                    go_ret
                    exact ⟨by first | rfl | (simp [errW_none, errW_some] <;> rfl) | (simp [*, errW_none, errW_some] <;> rfl), by repeat (first | (with_reducible first | exact HB.out | apply below_alloc | apply pw_below_drewN | apply below_drew1) | exact HB.out)⟩
                  · rw [if_neg c33] at H
                    have c33b0 : (t405.toList == a1.toList) = false := beq_eq_false_iff_ne.mpr c33
                    have c33b1 : (t405.toList != a1.toList) = true := bne_iff_ne.mpr c33
                    obtain rfl := Option.some.inj H
                    go_wp2_with (first | (go_at_call 24; (with_reducible refine (text_Magic.calls kj8 t398 false _ A29.out).mono ?_); rintro e w38 ⟨rfl, hb⟩; have n0_ := Aside0.mk (below_step (by repeat (first | (with_reducible first | exact HB.out | apply below_alloc | apply pw_below_drewN | apply below_drew1) | exact HB.out)) hb); clear HB; have HB := n0_; clear n0_; (try clear hb); (try clear hb2); (try clear hk); (try clear hi)) | (go_at_call 25; (with_reducible refine (text_Plain.calls t398 t405 _ A32.out).mono ?_); rintro e w39 ⟨rfl, hb⟩; have n0_ := Aside0.mk (below_step (by repeat (first | (with_reducible first | exact HB.out | apply below_alloc | apply pw_below_drewN | apply below_drew1) | exact HB.out)) hb); clear HB; have HB := n0_; clear n0_; (try clear hb); (try clear hb2); (try clear hk); (try clear hi)))
                    go_ret
                    exact ⟨by first | rfl | (simp [errW_none, errW_some] <;> rfl) | (simp [*, errW_none, errW_some] <;> rfl), by repeat (first | (with_reducible first | exact HB.out | apply below_alloc | apply pw_below_drewN | apply below_drew1) | exact HB.out)⟩
              · replace c28 := Bool.eq_false_iff.mpr c28
                subst c28
                have H1 : (some false) = some r := by rw [if_neg (show ¬ (false = true) by decide)] at H; exact H
                clear H
                have H := H1
                clear H1
                obtain rfl := Option.some.inj H
                go_wp2
                go_ret
                exact ⟨by first | rfl | (simp [errW_none, errW_some] <;> rfl) | (simp [*, errW_none, errW_some] <;> rfl), by repeat (first | (with_reducible first | exact HB.out | apply below_alloc | apply pw_below_drewN | apply below_drew1) | exact HB.out)⟩

end Go.Proofs.YtfefbnfmngdicaaDoor.PX
