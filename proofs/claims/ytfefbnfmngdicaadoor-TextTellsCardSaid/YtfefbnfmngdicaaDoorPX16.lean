-- Written by a program of this session (wip/tools): the kit's printer, turned to take contracts that were proved by hand.
import Derived.Test.YtfefbnfmngdicaaDoorPX0
import Derived.Test.YtfefbnfmngdicaaDoorE1
import Derived.Test.YtfefbnfmngdicaaDoorE3
import Derived.Test.YtfefbnfmngdicaaDoorE4
import Derived.Test.YtfefbnfmngdicaaDoorEnv
namespace Go.Proofs.YtfefbnfmngdicaaDoor.PX
open Go.RowKit Go.Proofs.YtfefbnfmngdicaaDoorW.PrintWords Go.Proofs.YtfefbnfmngdicaaDoorW.PrintLast
set_option linter.unusedVariables false
set_option linter.unusedSimpArgs false

/-! ### erratalaw02_small: function 13 -/
mutual
def erratalaw02_small.j0 : Nat → Bool → Bool → Int → Bool → List ByteArray → List ByteArray → Bool → Option (Bool)
  | 0, _, _, _, _, _, _, _ => none
  | k + 1, x2, x4, x5, x6, x7, x8, x31 => if x31 = true then (some false) else (if x2 = true then (erratalaw02_small.j1 k false) else (if x4 = true then (erratalaw02_small.j1 k false) else (if x6 = true then (if x5 = (-9223372036854775808) then ((text_Quote.f (⟨#[97, 34, 10, 200]⟩ : ByteArray)).bind fun t333 => (if t333.toList = ([34, 97, 92, 34, 92, 110, 92, 120, 99, 56, 34] : List UInt8) then (if 1 < (x7.length : Int) then (if (rdOf ByteArray.empty x7 1).toList = ([] : List UInt8) then (if 2 < (x7.length : Int) then (if (rdOf ByteArray.empty x7 2).toList = ([98] : List UInt8) then (if 1 < (x8.length : Int) then (erratalaw02_small.j1 k ((rdOf ByteArray.empty x8 1).toList == ([98] : List UInt8))) else (none)) else (erratalaw02_small.j1 k false)) else (none)) else (erratalaw02_small.j1 k false)) else (none)) else (erratalaw02_small.j1 k false))) else (erratalaw02_small.j1 k false)) else (erratalaw02_small.j1 k false))))
def erratalaw02_small.j1 : Nat → Bool → Option (Bool)
  | 0, _ => none
  | k + 1, x9 => if x9 = true then ((text_Pattern.f (⟨#[97, 42, 91, 33, 120, 45, 122, 93, 63]⟩ : ByteArray) (⟨#[97, 98, 99, 100]⟩ : ByteArray)).bind fun t337 => (if t337 = true then ((text_Pattern.f (⟨#[91, 93, 93]⟩ : ByteArray) (⟨#[93]⟩ : ByteArray)).bind fun t338 => (if t338 = true then ((text_Pattern.f (⟨#[91, 97]⟩ : ByteArray) (⟨#[91, 97]⟩ : ByteArray)).bind fun t339 => (if t339 = true then ((text_Pattern.f (⟨#[92, 42]⟩ : ByteArray) (⟨#[42]⟩ : ByteArray)).bind fun t340 => (if t340 = true then ((text_Pattern.f (⟨#[92, 42]⟩ : ByteArray) (⟨#[97, 98]⟩ : ByteArray)).bind fun t341 => (some (!t341))) else (some false))) else (some false))) else (some false))) else (some false))) else (some false)
end
def erratalaw02_small.f (k : Nat)  : Option (Bool) := (text_Int.f (⟨#[45, 48]⟩ : ByteArray)).bind fun bt321 => ((text_Int.f (⟨#[48, 48, 55]⟩ : ByteArray)).bind fun bt323 => ((text_Int.f (⟨#[45, 57, 50, 50, 51, 51, 55, 50, 48, 51, 54, 56, 53, 52, 55, 55, 53, 56, 48, 56]⟩ : ByteArray)).bind fun bt325 => ((text_Lines.f (⟨#[97, 10, 10, 98]⟩ : ByteArray)).bind fun t327 => ((text_Fields.f (⟨#[32, 97, 32, 32, 98, 10]⟩ : ByteArray)).bind fun t330 => (if (t327.length : Int) = 3 then (erratalaw02_small.j0 k bt321.2 bt323.2 bt325.1 bt325.2 t327 t330 ((t330.length : Int) != 2)) else (erratalaw02_small.j0 k bt321.2 bt323.2 bt325.1 bt325.2 t327 t330 true))))))
set_option maxHeartbeats 8000000 in
set_option maxRecDepth 100000 in
theorem erratalaw02_small.calls (k : Nat)  (r : Bool) (w : World) (hE : Env w) (h : erratalaw02_small.f k  = some r) :
    Calls Tryd.prog 13 #[] w fun e w' => e = .returned (.bool r) ∧ Below w.heap.size w w' := by
  have HB := Aside0.mk (Below.refl w.heap.size w)
  have HE := Aside0.mk hE
  clear hE
  have H : ((text_Int.f (⟨#[45, 48]⟩ : ByteArray)).bind fun bt321 => ((text_Int.f (⟨#[48, 48, 55]⟩ : ByteArray)).bind fun bt323 => ((text_Int.f (⟨#[45, 57, 50, 50, 51, 51, 55, 50, 48, 51, 54, 56, 53, 52, 55, 55, 53, 56, 48, 56]⟩ : ByteArray)).bind fun bt325 => ((text_Lines.f (⟨#[97, 10, 10, 98]⟩ : ByteArray)).bind fun t327 => ((text_Fields.f (⟨#[32, 97, 32, 32, 98, 10]⟩ : ByteArray)).bind fun t330 => (if (t327.length : Int) = 3 then (erratalaw02_small.j0 k bt321.2 bt323.2 bt325.1 bt325.2 t327 t330 ((t330.length : Int) != 2)) else (erratalaw02_small.j0 k bt321.2 bt323.2 bt325.1 bt325.2 t327 t330 true))))))) = some r := h
  clear h
  replace H := Option.bind_eq_some_iff.mp H
  obtain ⟨⟨t321, t322⟩, A10, H⟩ := H
  replace H : ((text_Int.f (⟨#[48, 48, 55]⟩ : ByteArray)).bind fun bt323 => ((text_Int.f (⟨#[45, 57, 50, 50, 51, 51, 55, 50, 48, 51, 54, 56, 53, 52, 55, 55, 53, 56, 48, 56]⟩ : ByteArray)).bind fun bt325 => ((text_Lines.f (⟨#[97, 10, 10, 98]⟩ : ByteArray)).bind fun t327 => ((text_Fields.f (⟨#[32, 97, 32, 32, 98, 10]⟩ : ByteArray)).bind fun t330 => (if (t327.length : Int) = 3 then (erratalaw02_small.j0 k t322 bt323.2 bt325.1 bt325.2 t327 t330 ((t330.length : Int) != 2)) else (erratalaw02_small.j0 k t322 bt323.2 bt325.1 bt325.2 t327 t330 true)))))) = some r := H
  have A1 := Aside0.mk A10
  clear A10
  replace H := Option.bind_eq_some_iff.mp H
  obtain ⟨⟨t323, t324⟩, A20, H⟩ := H
  replace H : ((text_Int.f (⟨#[45, 57, 50, 50, 51, 51, 55, 50, 48, 51, 54, 56, 53, 52, 55, 55, 53, 56, 48, 56]⟩ : ByteArray)).bind fun bt325 => ((text_Lines.f (⟨#[97, 10, 10, 98]⟩ : ByteArray)).bind fun t327 => ((text_Fields.f (⟨#[32, 97, 32, 32, 98, 10]⟩ : ByteArray)).bind fun t330 => (if (t327.length : Int) = 3 then (erratalaw02_small.j0 k t322 t324 bt325.1 bt325.2 t327 t330 ((t330.length : Int) != 2)) else (erratalaw02_small.j0 k t322 t324 bt325.1 bt325.2 t327 t330 true))))) = some r := H
  have A2 := Aside0.mk A20
  clear A20
  replace H := Option.bind_eq_some_iff.mp H
  obtain ⟨⟨t325, t326⟩, A30, H⟩ := H
  replace H : ((text_Lines.f (⟨#[97, 10, 10, 98]⟩ : ByteArray)).bind fun t327 => ((text_Fields.f (⟨#[32, 97, 32, 32, 98, 10]⟩ : ByteArray)).bind fun t330 => (if (t327.length : Int) = 3 then (erratalaw02_small.j0 k t322 t324 t325 t326 t327 t330 ((t330.length : Int) != 2)) else (erratalaw02_small.j0 k t322 t324 t325 t326 t327 t330 true)))) = some r := H
  have A3 := Aside0.mk A30
  clear A30
  replace H := Option.bind_eq_some_iff.mp H
  obtain ⟨t327, A40, H⟩ := H
  replace H : ((text_Fields.f (⟨#[32, 97, 32, 32, 98, 10]⟩ : ByteArray)).bind fun t330 => (if (t327.length : Int) = 3 then (erratalaw02_small.j0 k t322 t324 t325 t326 t327 t330 ((t330.length : Int) != 2)) else (erratalaw02_small.j0 k t322 t324 t325 t326 t327 t330 true))) = some r := H
  have A4 := Aside0.mk A40
  clear A40
  replace H := Option.bind_eq_some_iff.mp H
  obtain ⟨t330, A50, H⟩ := H
  replace H : (if (t327.length : Int) = 3 then (erratalaw02_small.j0 k t322 t324 t325 t326 t327 t330 ((t330.length : Int) != 2)) else (erratalaw02_small.j0 k t322 t324 t325 t326 t327 t330 true)) = some r := H
  have A5 := Aside0.mk A50
  clear A50
  have HC6 := Aside0.mk H
  clear H
  go_enter Tryd.func13, Tryd.ntmps13
  go_upto_region 6 with (first | ((with_reducible refine gate_callee (f := 20) rfl ?_); refine goesL_ (some 11) rfl rfl Tryd.func20 (by kernel_rfl) rfl #[.string (⟨#[45, 48]⟩ : ByteArray)] rfl (by (try simp only [List.map_toArray, List.map_cons, List.map_nil]); first | done | rfl | (simp only [List.length_drop, List.length_take]; rfl)) ?_; (with_reducible refine (text_Int.calls (⟨#[45, 48]⟩ : ByteArray) t321 t322 _ ?side1 A1.out).mono ?_); (case side1 => exact envB HE.out (by repeat (first | (with_reducible first | exact HB.out | apply below_alloc | apply pw_below_drewN | apply below_drew1) | exact HB.out))); rintro e w7 ⟨rfl, hb⟩; refine ⟨_, rfl, ?_⟩; have n0_ := Aside0.mk (below_step (by repeat (first | (with_reducible first | exact HB.out | apply below_alloc | apply pw_below_drewN | apply below_drew1) | exact HB.out)) hb); clear HB; have HB := n0_; clear n0_; (try clear hb); (try clear hb2); (try clear hk); (try clear hi)) | ((with_reducible refine gate_callee (f := 20) rfl ?_); refine goesL_ (some 15) rfl rfl Tryd.func20 (by kernel_rfl) rfl #[.string (⟨#[48, 48, 55]⟩ : ByteArray)] rfl (by (try simp only [List.map_toArray, List.map_cons, List.map_nil]); first | done | rfl | (simp only [List.length_drop, List.length_take]; rfl)) ?_; (with_reducible refine (text_Int.calls (⟨#[48, 48, 55]⟩ : ByteArray) t323 t324 _ ?side1 A2.out).mono ?_); (case side1 => exact envB HE.out (by repeat (first | (with_reducible first | exact HB.out | apply below_alloc | apply pw_below_drewN | apply below_drew1) | exact HB.out))); rintro e w8 ⟨rfl, hb⟩; refine ⟨_, rfl, ?_⟩; have n0_ := Aside0.mk (below_step (by repeat (first | (with_reducible first | exact HB.out | apply below_alloc | apply pw_below_drewN | apply below_drew1) | exact HB.out)) hb); clear HB; have HB := n0_; clear n0_; (try clear hb); (try clear hb2); (try clear hk); (try clear hi)) | ((with_reducible refine gate_callee (f := 20) rfl ?_); refine goesL_ (some 19) rfl rfl Tryd.func20 (by kernel_rfl) rfl #[.string (⟨#[45, 57, 50, 50, 51, 51, 55, 50, 48, 51, 54, 56, 53, 52, 55, 55, 53, 56, 48, 56]⟩ : ByteArray)] rfl (by (try simp only [List.map_toArray, List.map_cons, List.map_nil]); first | done | rfl | (simp only [List.length_drop, List.length_take]; rfl)) ?_; (with_reducible refine (text_Int.calls (⟨#[45, 57, 50, 50, 51, 51, 55, 50, 48, 51, 54, 56, 53, 52, 55, 55, 53, 56, 48, 56]⟩ : ByteArray) t325 t326 _ ?side1 A3.out).mono ?_); (case side1 => exact envB HE.out (by repeat (first | (with_reducible first | exact HB.out | apply below_alloc | apply pw_below_drewN | apply below_drew1) | exact HB.out))); rintro e w9 ⟨rfl, hb⟩; refine ⟨_, rfl, ?_⟩; have n0_ := Aside0.mk (below_step (by repeat (first | (with_reducible first | exact HB.out | apply below_alloc | apply pw_below_drewN | apply below_drew1) | exact HB.out)) hb); clear HB; have HB := n0_; clear n0_; (try clear hb); (try clear hb2); (try clear hk); (try clear hi)) | ((with_reducible refine gate_callee (f := 15) rfl ?_); refine goesL_ (some 22) rfl rfl Tryd.func15 (by kernel_rfl) rfl #[.string (⟨#[97, 10, 10, 98]⟩ : ByteArray)] rfl (by (try simp only [List.map_toArray, List.map_cons, List.map_nil]); first | done | rfl | (simp only [List.length_drop, List.length_take]; rfl)) ?_; (with_reducible refine (text_Lines.calls (⟨#[97, 10, 10, 98]⟩ : ByteArray) t327 _ ?side1 A4.out).mono ?_); (case side1 => exact envB HE.out (by repeat (first | (with_reducible first | exact HB.out | apply below_alloc | apply pw_below_drewN | apply below_drew1) | exact HB.out))); rintro e w10 ⟨v328, rfl, ho0, hb⟩; refine ⟨_, rfl, ?_⟩; have n0_ := Aside0.mk (Kd.R_lower ho0 (below_size (by repeat (first | (with_reducible first | exact HB.out | apply below_alloc | apply pw_below_drewN | apply below_drew1) | exact HB.out)))); have n1_ := Aside0.mk (below_step (by repeat (first | (with_reducible first | exact HB.out | apply below_alloc | apply pw_below_drewN | apply below_drew1) | exact HB.out)) hb); clear HB; have HO329 := n0_; have HB := n1_; clear n0_ n1_; (try clear hb); (try clear hb2); (try clear hk); (try clear hi); (try clear ho0)) | ((with_reducible refine gate_callee (f := 17) rfl ?_); refine goesL_ (some 23) rfl rfl Tryd.func17 (by kernel_rfl) rfl #[.string (⟨#[32, 97, 32, 32, 98, 10]⟩ : ByteArray)] rfl (by (try simp only [List.map_toArray, List.map_cons, List.map_nil]); first | done | rfl | (simp only [List.length_drop, List.length_take]; rfl)) ?_; (with_reducible refine (text_Fields.calls (⟨#[32, 97, 32, 32, 98, 10]⟩ : ByteArray) t330 _ A5.out).mono ?_); rintro e w11 ⟨v331, rfl, ho0, hb⟩; refine ⟨_, rfl, ?_⟩; have n0_ := Aside0.mk (Kd.R_elder' (by (with_reducible repeat (first | apply Kd.R_alloc | apply Kd.R_drewN | apply Kd.R_drew)); exact HO329.out) (Kd.R_base ho0) hb); have n1_ := Aside0.mk (Kd.R_lower (Kd.R_new' ho0 (Kd.R_lt (by (with_reducible repeat (first | apply Kd.R_alloc | apply Kd.R_drewN | apply Kd.R_drew)); exact HO329.out))) (below_size (by repeat (first | (with_reducible first | exact HB.out | apply below_alloc | apply pw_below_drewN | apply below_drew1) | exact HB.out)))); have n2_ := Aside0.mk (below_step (by repeat (first | (with_reducible first | exact HB.out | apply below_alloc | apply pw_below_drewN | apply below_drew1) | exact HB.out)) hb); clear HO329; clear HB; have HO329 := n0_; have HO332 := n1_; have HB := n2_; clear n0_ n1_ n2_; (try clear hb); (try clear hb2); (try clear hk); (try clear hi); (try clear ho0)))
  (try simp only [Act.put, List.setIfInBounds_toArray, List.set_cons_zero, List.set_cons_succ])
  go_cut [31] (fun v31 wc => ∃ (kq : Nat) (x31_5 : Bool), v31 = .bool x31_5 ∧ Aside0 (erratalaw02_small.j0 kq t322 t324 t325 t326 t327 t330 x31_5 = some r) ∧ Aside0 (kq ≤ k) ∧ Aside0 (Kd.R Kd.string 9 wc w.heap.size (fun k_ => some k_ ≠ (v331 : Value).ownBlock) v328 t327) ∧ Aside0 (Kd.R Kd.string 9 wc w.heap.size (fun k_ => some k_ ≠ (v328 : Value).ownBlock) v331 t330) ∧ Aside0 (Below w.heap.size w wc))
  case first =>
    have H := HC6.out
    clear HC6
    by_cases c12 : (t327.length : Int) = 3
    · rw [if_pos c12] at H
      have c12b0 : ((t327.length : Int) == 3) = true := beq_iff_eq.mpr c12
      have c12b1 : ((t327.length : Int) != 3) = false := bne_eq_false_iff_eq.mpr c12
      clear c12
      (first | rw [c12b0] | (simp only [i64_w, i32_w]; rw [c12b0]) | skip)
      have H' := Aside0.mk H
      clear H
      obtain ⟨Ao13, co13, eo13⟩ := Kd.R_slice HO329.out
      subst eo13
      obtain ⟨Ao14, co14, eo14⟩ := Kd.R_slice HO332.out
      subst eo14
      go_wp2
      go_meet
      case rel => exact ⟨_, (((t330.length : Int) != 2)), (by first | rfl | (simp; done) | (simp [*]; done)), H', ⟨by first | omega | exact Nat.le_refl _⟩, ⟨by (with_reducible repeat (first | apply Kd.R_alloc | apply Kd.R_drewN | apply Kd.R_drew)); exact Kd.R_mono HO329.out (fun _ hk => hk.2)⟩, ⟨by (with_reducible repeat (first | apply Kd.R_alloc | apply Kd.R_drewN | apply Kd.R_drew)); exact Kd.R_mono HO332.out (fun _ hk => hk.2)⟩, ⟨by repeat (first | (with_reducible first | exact HB.out | apply below_alloc | apply pw_below_drewN | apply below_drew1) | exact HB.out)⟩⟩
    · rw [if_neg c12] at H
      have c12b0 : ((t327.length : Int) == 3) = false := beq_eq_false_iff_ne.mpr c12
      have c12b1 : ((t327.length : Int) != 3) = true := bne_iff_ne.mpr c12
      (first | rw [c12b0] | (simp only [i64_w, i32_w]; rw [c12b0]) | skip)
      have H' := Aside0.mk H
      clear H
      obtain ⟨Ao15, co15, eo15⟩ := Kd.R_slice HO329.out
      subst eo15
      go_wp2
      go_meet
      case rel => exact ⟨_, (true), (by first | rfl | (simp; done) | (simp [*]; done)), H', ⟨by first | omega | exact Nat.le_refl _⟩, ⟨by (with_reducible repeat (first | apply Kd.R_alloc | apply Kd.R_drewN | apply Kd.R_drew)); exact Kd.R_mono HO329.out (fun _ hk => hk.2)⟩, ⟨by (with_reducible repeat (first | apply Kd.R_alloc | apply Kd.R_drewN | apply Kd.R_drew)); exact Kd.R_mono HO332.out (fun _ hk => hk.2)⟩, ⟨by repeat (first | (with_reducible first | exact HB.out | apply below_alloc | apply pw_below_drewN | apply below_drew1) | exact HB.out)⟩⟩
  case rest =>
    clear HC6
    try clear c1
    try clear c2
    try clear p2
    try clear c12
    try clear c12b0
    try clear c12b1
    try clear c13
    try clear c15
    obtain ⟨kq, x31_5, rfl, HA, HJ5, HO_7, HO_8, HB⟩ := hcut
    cases kq with
    | zero => exact absurd HA.out (by simp [erratalaw02_small.j0])
    | succ kj5 =>
      have H := HA.out
      clear HA
      simp only [erratalaw02_small.j0] at H
      by_cases c16 : x31_5 = true
      · subst c16
        have H1 : (some false) = some r := by rw [if_pos rfl] at H; exact H
        clear H
        have H := H1
        clear H1
        obtain rfl := Option.some.inj H
        go_wp2
        go_ret
        exact ⟨by first | rfl | (simp [errW_none, errW_some] <;> rfl) | (simp [*, errW_none, errW_some] <;> rfl), by repeat (first | (with_reducible first | exact HB.out | apply below_alloc | apply pw_below_drewN | apply below_drew1) | exact HB.out)⟩
      · replace c16 := Bool.eq_false_iff.mpr c16
        subst c16
        have H1 : (if t322 = true then (erratalaw02_small.j1 kj5 false) else (if t324 = true then (erratalaw02_small.j1 kj5 false) else (if t326 = true then (if t325 = (-9223372036854775808) then ((text_Quote.f (⟨#[97, 34, 10, 200]⟩ : ByteArray)).bind fun t333 => (if t333.toList = ([34, 97, 92, 34, 92, 110, 92, 120, 99, 56, 34] : List UInt8) then (if 1 < (t327.length : Int) then (if (rdOf ByteArray.empty t327 1).toList = ([] : List UInt8) then (if 2 < (t327.length : Int) then (if (rdOf ByteArray.empty t327 2).toList = ([98] : List UInt8) then (if 1 < (t330.length : Int) then (erratalaw02_small.j1 kj5 ((rdOf ByteArray.empty t330 1).toList == ([98] : List UInt8))) else (none)) else (erratalaw02_small.j1 kj5 false)) else (none)) else (erratalaw02_small.j1 kj5 false)) else (none)) else (erratalaw02_small.j1 kj5 false))) else (erratalaw02_small.j1 kj5 false)) else (erratalaw02_small.j1 kj5 false)))) = some r := by rw [if_neg (show ¬ (false = true) by decide)] at H; exact H
        clear H
        have H := H1
        clear H1
        have HC17 := Aside0.mk H
        clear H
        go_upto_region 8 with (fail)
        go_cut [9] (fun v9 wc => ∃ (kq : Nat) (x9_16 : Bool), v9 = .bool x9_16 ∧ Aside0 (erratalaw02_small.j1 kq x9_16 = some r) ∧ Aside0 (kq ≤ kj5) ∧ Aside0 (Below w.heap.size w wc))
        case first =>
          have H := HC17.out
          clear HC17
          by_cases c18 : t322 = true
          · subst c18
            have H1 : (erratalaw02_small.j1 kj5 false) = some r := by rw [if_pos rfl] at H; exact H
            clear H
            have H := H1
            clear H1
            have H' := Aside0.mk H
            clear H
            go_wp2
            go_meet
            case rel => exact ⟨_, (false), (by first | rfl | (simp; done) | (simp [*]; done)), H', ⟨by have := HJ5.out; first | omega | exact Nat.le_refl _⟩, ⟨by repeat (first | (with_reducible first | exact HB.out | apply below_alloc | apply pw_below_drewN | apply below_drew1) | exact HB.out)⟩⟩
          · replace c18 := Bool.eq_false_iff.mpr c18
            subst c18
            have H1 : (if t324 = true then (erratalaw02_small.j1 kj5 false) else (if t326 = true then (if t325 = (-9223372036854775808) then ((text_Quote.f (⟨#[97, 34, 10, 200]⟩ : ByteArray)).bind fun t333 => (if t333.toList = ([34, 97, 92, 34, 92, 110, 92, 120, 99, 56, 34] : List UInt8) then (if 1 < (t327.length : Int) then (if (rdOf ByteArray.empty t327 1).toList = ([] : List UInt8) then (if 2 < (t327.length : Int) then (if (rdOf ByteArray.empty t327 2).toList = ([98] : List UInt8) then (if 1 < (t330.length : Int) then (erratalaw02_small.j1 kj5 ((rdOf ByteArray.empty t330 1).toList == ([98] : List UInt8))) else (none)) else (erratalaw02_small.j1 kj5 false)) else (none)) else (erratalaw02_small.j1 kj5 false)) else (none)) else (erratalaw02_small.j1 kj5 false))) else (erratalaw02_small.j1 kj5 false)) else (erratalaw02_small.j1 kj5 false))) = some r := by rw [if_neg (show ¬ (false = true) by decide)] at H; exact H
            clear H
            have H := H1
            clear H1
            by_cases c19 : t324 = true
            · subst c19
              have H1 : (erratalaw02_small.j1 kj5 false) = some r := by rw [if_pos rfl] at H; exact H
              clear H
              have H := H1
              clear H1
              have H' := Aside0.mk H
              clear H
              go_wp2
              go_meet
              case rel => exact ⟨_, (false), (by first | rfl | (simp; done) | (simp [*]; done)), H', ⟨by have := HJ5.out; first | omega | exact Nat.le_refl _⟩, ⟨by repeat (first | (with_reducible first | exact HB.out | apply below_alloc | apply pw_below_drewN | apply below_drew1) | exact HB.out)⟩⟩
            · replace c19 := Bool.eq_false_iff.mpr c19
              subst c19
              have H1 : (if t326 = true then (if t325 = (-9223372036854775808) then ((text_Quote.f (⟨#[97, 34, 10, 200]⟩ : ByteArray)).bind fun t333 => (if t333.toList = ([34, 97, 92, 34, 92, 110, 92, 120, 99, 56, 34] : List UInt8) then (if 1 < (t327.length : Int) then (if (rdOf ByteArray.empty t327 1).toList = ([] : List UInt8) then (if 2 < (t327.length : Int) then (if (rdOf ByteArray.empty t327 2).toList = ([98] : List UInt8) then (if 1 < (t330.length : Int) then (erratalaw02_small.j1 kj5 ((rdOf ByteArray.empty t330 1).toList == ([98] : List UInt8))) else (none)) else (erratalaw02_small.j1 kj5 false)) else (none)) else (erratalaw02_small.j1 kj5 false)) else (none)) else (erratalaw02_small.j1 kj5 false))) else (erratalaw02_small.j1 kj5 false)) else (erratalaw02_small.j1 kj5 false)) = some r := by rw [if_neg (show ¬ (false = true) by decide)] at H; exact H
              clear H
              have H := H1
              clear H1
              by_cases c20 : t326 = true
              · subst c20
                have H1 : (if t325 = (-9223372036854775808) then ((text_Quote.f (⟨#[97, 34, 10, 200]⟩ : ByteArray)).bind fun t333 => (if t333.toList = ([34, 97, 92, 34, 92, 110, 92, 120, 99, 56, 34] : List UInt8) then (if 1 < (t327.length : Int) then (if (rdOf ByteArray.empty t327 1).toList = ([] : List UInt8) then (if 2 < (t327.length : Int) then (if (rdOf ByteArray.empty t327 2).toList = ([98] : List UInt8) then (if 1 < (t330.length : Int) then (erratalaw02_small.j1 kj5 ((rdOf ByteArray.empty t330 1).toList == ([98] : List UInt8))) else (none)) else (erratalaw02_small.j1 kj5 false)) else (none)) else (erratalaw02_small.j1 kj5 false)) else (none)) else (erratalaw02_small.j1 kj5 false))) else (erratalaw02_small.j1 kj5 false)) = some r := by rw [if_pos rfl] at H; exact H
                clear H
                have H := H1
                clear H1
                by_cases c21 : t325 = (-9223372036854775808)
                · rw [if_pos c21] at H
                  have c21b0 : (t325 == (-9223372036854775808)) = true := beq_iff_eq.mpr c21
                  have c21b1 : (t325 != (-9223372036854775808)) = false := bne_eq_false_iff_eq.mpr c21
                  clear c21
                  (first | rw [c21b0] | (simp only [i64_w, i32_w]; rw [c21b0]) | skip)
                  replace H := Option.bind_eq_some_iff.mp H
                  obtain ⟨t333, A220, H⟩ := H
                  replace H : (if t333.toList = ([34, 97, 92, 34, 92, 110, 92, 120, 99, 56, 34] : List UInt8) then (if 1 < (t327.length : Int) then (if (rdOf ByteArray.empty t327 1).toList = ([] : List UInt8) then (if 2 < (t327.length : Int) then (if (rdOf ByteArray.empty t327 2).toList = ([98] : List UInt8) then (if 1 < (t330.length : Int) then (erratalaw02_small.j1 kj5 ((rdOf ByteArray.empty t330 1).toList == ([98] : List UInt8))) else (none)) else (erratalaw02_small.j1 kj5 false)) else (none)) else (erratalaw02_small.j1 kj5 false)) else (none)) else (erratalaw02_small.j1 kj5 false)) = some r := H
                  have A22 := Aside0.mk A220
                  clear A220
                  by_cases c23 : t333.toList = ([34, 97, 92, 34, 92, 110, 92, 120, 99, 56, 34] : List UInt8)
                  · rw [if_pos c23] at H
                    have c23b0 : (t333.toList == ([34, 97, 92, 34, 92, 110, 92, 120, 99, 56, 34] : List UInt8)) = true := beq_iff_eq.mpr c23
                    have c23b1 : (t333.toList != ([34, 97, 92, 34, 92, 110, 92, 120, 99, 56, 34] : List UInt8)) = false := bne_eq_false_iff_eq.mpr c23
                    clear c23
                    by_cases c24 : 1 < (t327.length : Int)
                    · rw [if_pos c24] at H
                      have c24b0 : decide (1 < (t327.length : Int)) = true := decide_eq_true c24
                      have c24b1 : decide (1 < t327.length) = true := decide_eq_true (by omega)
                      clear c24
                      by_cases c25 : (rdOf ByteArray.empty t327 1).toList = ([] : List UInt8)
                      · rw [if_pos c25] at H
                        have c25b0 : ((rdOf ByteArray.empty t327 1).toList == ([] : List UInt8)) = true := beq_iff_eq.mpr c25
                        have c25b1 : ((rdOf ByteArray.empty t327 1).toList != ([] : List UInt8)) = false := bne_eq_false_iff_eq.mpr c25
                        clear c25
                        by_cases c26 : 2 < (t327.length : Int)
                        · rw [if_pos c26] at H
                          have c26b0 : decide (2 < (t327.length : Int)) = true := decide_eq_true c26
                          have c26b1 : decide (2 < t327.length) = true := decide_eq_true (by omega)
                          clear c26
                          by_cases c27 : (rdOf ByteArray.empty t327 2).toList = ([98] : List UInt8)
                          · rw [if_pos c27] at H
                            have c27b0 : ((rdOf ByteArray.empty t327 2).toList == ([98] : List UInt8)) = true := beq_iff_eq.mpr c27
                            have c27b1 : ((rdOf ByteArray.empty t327 2).toList != ([98] : List UInt8)) = false := bne_eq_false_iff_eq.mpr c27
                            clear c27
                            by_cases c28 : 1 < (t330.length : Int)
                            · rw [if_pos c28] at H
                              have c28b0 : decide (1 < (t330.length : Int)) = true := decide_eq_true c28
                              have c28b1 : decide (1 < t330.length) = true := decide_eq_true (by omega)
                              clear c28
                              have H' := Aside0.mk H
                              clear H
                              go_wp2_with (first | (go_at_call 23; (with_reducible refine (text_Quote.calls (⟨#[97, 34, 10, 200]⟩ : ByteArray) t333 _ A22.out).mono ?_); rintro e w29 ⟨rfl, hb⟩; have n0_ := Aside0.mk (Kd.R_below (by (with_reducible repeat (first | apply Kd.R_alloc | apply Kd.R_drewN | apply Kd.R_drew)); exact HO_7.out) hb); have n1_ := Aside0.mk (Kd.R_below (by (with_reducible repeat (first | apply Kd.R_alloc | apply Kd.R_drewN | apply Kd.R_drew)); exact HO_8.out) hb); have n2_ := Aside0.mk (below_step (by repeat (first | (with_reducible first | exact HB.out | apply below_alloc | apply pw_below_drewN | apply below_drew1) | exact HB.out)) hb); clear HO_7; clear HO_8; clear HB; have HO_7 := n0_; have HO_8 := n1_; have HB := n2_; clear n0_ n1_ n2_; (try clear hb); (try clear hb2); (try clear hk); (try clear hi); obtain ⟨Ao30, co30, eo30⟩ := Kd.R_slice HO_7.out; subst eo30; have p334 : 0 ≤ (1 : Int) := (by omega); have q334 : 1 < (t327.length : Int) := of_decide_eq_true (by first | (with_reducible assumption) | assumption); obtain ⟨ad334, e334, hx334_0⟩ := Kd.at_string (Kd.R_reads' HO_7.out).2.2 1 p334 q334; cases e334; (try simp only [show (1 : Int).toNat = 1 from rfl, Nat.reduceMul, Nat.reduceEqDiff, Go.Addr.add, ↓reduceIte] at hx334_0); have qi334 : (1 < t327.length) = True := eq_true (by omega); (try rw [show ((1 : Int)).toNat = 1 from rfl] at hx334_0); replace p334 := eq_true p334; replace q334 := eq_true q334; have p335 : 0 ≤ (2 : Int) := (by omega); have q335 : 2 < (t327.length : Int) := of_decide_eq_true (by first | (with_reducible assumption) | assumption); obtain ⟨ad335, e335, hx335_0⟩ := Kd.at_string (Kd.R_reads' HO_7.out).2.2 2 p335 q335; obtain rfl : ad334 = ad335 := (by injection e335); (try simp only [show (2 : Int).toNat = 2 from rfl, Nat.reduceMul, Nat.reduceEqDiff, Go.Addr.add, ↓reduceIte] at hx335_0); have qi335 : (2 < t327.length) = True := eq_true (by omega); (try rw [show ((2 : Int)).toNat = 2 from rfl] at hx335_0); replace p335 := eq_true p335; replace q335 := eq_true q335; obtain ⟨Ao31, co31, eo31⟩ := Kd.R_slice HO_8.out; subst eo31; have p336 : 0 ≤ (1 : Int) := (by omega); have q336 : 1 < (t330.length : Int) := of_decide_eq_true (by first | (with_reducible assumption) | assumption); obtain ⟨ad336, e336, hx336_0⟩ := Kd.at_string (Kd.R_reads' HO_8.out).2.2 1 p336 q336; cases e336; (try simp only [show (1 : Int).toNat = 1 from rfl, Nat.reduceMul, Nat.reduceEqDiff, Go.Addr.add, ↓reduceIte] at hx336_0); have qi336 : (1 < t330.length) = True := eq_true (by omega); (try rw [show ((1 : Int)).toNat = 1 from rfl] at hx336_0); replace p336 := eq_true p336; replace q336 := eq_true q336))
                              go_meet
                              case rel => exact ⟨_, (((rdOf ByteArray.empty t330 1).toList == ([98] : List UInt8))), (by first | rfl | (simp; done) | (simp [*]; done)), H', ⟨by have := HJ5.out; first | omega | exact Nat.le_refl _⟩, ⟨by repeat (first | (with_reducible first | exact HB.out | apply below_alloc | apply pw_below_drewN | apply below_drew1) | exact HB.out)⟩⟩
                            · rw [if_neg c28] at H
                              exact absurd H (by simp)
                          · rw [if_neg c27] at H
                            have c27b0 : ((rdOf ByteArray.empty t327 2).toList == ([98] : List UInt8)) = false := beq_eq_false_iff_ne.mpr c27
                            have c27b1 : ((rdOf ByteArray.empty t327 2).toList != ([98] : List UInt8)) = true := bne_iff_ne.mpr c27
                            have H' := Aside0.mk H
                            clear H
                            go_wp2_with (first | (go_at_call 23; (with_reducible refine (text_Quote.calls (⟨#[97, 34, 10, 200]⟩ : ByteArray) t333 _ A22.out).mono ?_); rintro e w32 ⟨rfl, hb⟩; have n0_ := Aside0.mk (Kd.R_below (by (with_reducible repeat (first | apply Kd.R_alloc | apply Kd.R_drewN | apply Kd.R_drew)); exact HO_7.out) hb); have n1_ := Aside0.mk (Kd.R_below (by (with_reducible repeat (first | apply Kd.R_alloc | apply Kd.R_drewN | apply Kd.R_drew)); exact HO_8.out) hb); have n2_ := Aside0.mk (below_step (by repeat (first | (with_reducible first | exact HB.out | apply below_alloc | apply pw_below_drewN | apply below_drew1) | exact HB.out)) hb); clear HO_7; clear HO_8; clear HB; have HO_7 := n0_; have HO_8 := n1_; have HB := n2_; clear n0_ n1_ n2_; (try clear hb); (try clear hb2); (try clear hk); (try clear hi); obtain ⟨Ao33, co33, eo33⟩ := Kd.R_slice HO_7.out; subst eo33; have p334 : 0 ≤ (1 : Int) := (by omega); have q334 : 1 < (t327.length : Int) := of_decide_eq_true (by first | (with_reducible assumption) | assumption); obtain ⟨ad334, e334, hx334_0⟩ := Kd.at_string (Kd.R_reads' HO_7.out).2.2 1 p334 q334; cases e334; (try simp only [show (1 : Int).toNat = 1 from rfl, Nat.reduceMul, Nat.reduceEqDiff, Go.Addr.add, ↓reduceIte] at hx334_0); have qi334 : (1 < t327.length) = True := eq_true (by omega); (try rw [show ((1 : Int)).toNat = 1 from rfl] at hx334_0); replace p334 := eq_true p334; replace q334 := eq_true q334; have p335 : 0 ≤ (2 : Int) := (by omega); have q335 : 2 < (t327.length : Int) := of_decide_eq_true (by first | (with_reducible assumption) | assumption); obtain ⟨ad335, e335, hx335_0⟩ := Kd.at_string (Kd.R_reads' HO_7.out).2.2 2 p335 q335; obtain rfl : ad334 = ad335 := (by injection e335); (try simp only [show (2 : Int).toNat = 2 from rfl, Nat.reduceMul, Nat.reduceEqDiff, Go.Addr.add, ↓reduceIte] at hx335_0); have qi335 : (2 < t327.length) = True := eq_true (by omega); (try rw [show ((2 : Int)).toNat = 2 from rfl] at hx335_0); replace p335 := eq_true p335; replace q335 := eq_true q335))
                            go_meet
                            case rel => exact ⟨_, (false), (by first | rfl | (simp; done) | (simp [*]; done)), H', ⟨by have := HJ5.out; first | omega | exact Nat.le_refl _⟩, ⟨by repeat (first | (with_reducible first | exact HB.out | apply below_alloc | apply pw_below_drewN | apply below_drew1) | exact HB.out)⟩⟩
                        · rw [if_neg c26] at H
                          exact absurd H (by simp)
                      · rw [if_neg c25] at H
                        have c25b0 : ((rdOf ByteArray.empty t327 1).toList == ([] : List UInt8)) = false := beq_eq_false_iff_ne.mpr c25
                        have c25b1 : ((rdOf ByteArray.empty t327 1).toList != ([] : List UInt8)) = true := bne_iff_ne.mpr c25
                        have H' := Aside0.mk H
                        clear H
                        go_wp2_with (first | (go_at_call 23; (with_reducible refine (text_Quote.calls (⟨#[97, 34, 10, 200]⟩ : ByteArray) t333 _ A22.out).mono ?_); rintro e w34 ⟨rfl, hb⟩; have n0_ := Aside0.mk (Kd.R_below (by (with_reducible repeat (first | apply Kd.R_alloc | apply Kd.R_drewN | apply Kd.R_drew)); exact HO_7.out) hb); have n1_ := Aside0.mk (Kd.R_below (by (with_reducible repeat (first | apply Kd.R_alloc | apply Kd.R_drewN | apply Kd.R_drew)); exact HO_8.out) hb); have n2_ := Aside0.mk (below_step (by repeat (first | (with_reducible first | exact HB.out | apply below_alloc | apply pw_below_drewN | apply below_drew1) | exact HB.out)) hb); clear HO_7; clear HO_8; clear HB; have HO_7 := n0_; have HO_8 := n1_; have HB := n2_; clear n0_ n1_ n2_; (try clear hb); (try clear hb2); (try clear hk); (try clear hi); obtain ⟨Ao35, co35, eo35⟩ := Kd.R_slice HO_7.out; subst eo35; have p334 : 0 ≤ (1 : Int) := (by omega); have q334 : 1 < (t327.length : Int) := of_decide_eq_true (by first | (with_reducible assumption) | assumption); obtain ⟨ad334, e334, hx334_0⟩ := Kd.at_string (Kd.R_reads' HO_7.out).2.2 1 p334 q334; cases e334; (try simp only [show (1 : Int).toNat = 1 from rfl, Nat.reduceMul, Nat.reduceEqDiff, Go.Addr.add, ↓reduceIte] at hx334_0); have qi334 : (1 < t327.length) = True := eq_true (by omega); (try rw [show ((1 : Int)).toNat = 1 from rfl] at hx334_0); replace p334 := eq_true p334; replace q334 := eq_true q334))
                        go_meet
                        case rel => exact ⟨_, (false), (by first | rfl | (simp; done) | (simp [*]; done)), H', ⟨by have := HJ5.out; first | omega | exact Nat.le_refl _⟩, ⟨by repeat (first | (with_reducible first | exact HB.out | apply below_alloc | apply pw_below_drewN | apply below_drew1) | exact HB.out)⟩⟩
                    · rw [if_neg c24] at H
                      exact absurd H (by simp)
                  · rw [if_neg c23] at H
                    have c23b0 : (t333.toList == ([34, 97, 92, 34, 92, 110, 92, 120, 99, 56, 34] : List UInt8)) = false := beq_eq_false_iff_ne.mpr c23
                    have c23b1 : (t333.toList != ([34, 97, 92, 34, 92, 110, 92, 120, 99, 56, 34] : List UInt8)) = true := bne_iff_ne.mpr c23
                    have H' := Aside0.mk H
                    clear H
                    go_wp2_with (first | (go_at_call 23; (with_reducible refine (text_Quote.calls (⟨#[97, 34, 10, 200]⟩ : ByteArray) t333 _ A22.out).mono ?_); rintro e w36 ⟨rfl, hb⟩; have n0_ := Aside0.mk (Kd.R_below (by (with_reducible repeat (first | apply Kd.R_alloc | apply Kd.R_drewN | apply Kd.R_drew)); exact HO_7.out) hb); have n1_ := Aside0.mk (Kd.R_below (by (with_reducible repeat (first | apply Kd.R_alloc | apply Kd.R_drewN | apply Kd.R_drew)); exact HO_8.out) hb); have n2_ := Aside0.mk (below_step (by repeat (first | (with_reducible first | exact HB.out | apply below_alloc | apply pw_below_drewN | apply below_drew1) | exact HB.out)) hb); clear HO_7; clear HO_8; clear HB; have HO_7 := n0_; have HO_8 := n1_; have HB := n2_; clear n0_ n1_ n2_; (try clear hb); (try clear hb2); (try clear hk); (try clear hi)))
                    go_meet
                    case rel => exact ⟨_, (false), (by first | rfl | (simp; done) | (simp [*]; done)), H', ⟨by have := HJ5.out; first | omega | exact Nat.le_refl _⟩, ⟨by repeat (first | (with_reducible first | exact HB.out | apply below_alloc | apply pw_below_drewN | apply below_drew1) | exact HB.out)⟩⟩
                · rw [if_neg c21] at H
                  have c21b0 : (t325 == (-9223372036854775808)) = false := beq_eq_false_iff_ne.mpr c21
                  have c21b1 : (t325 != (-9223372036854775808)) = true := bne_iff_ne.mpr c21
                  (first | rw [c21b0] | (simp only [i64_w, i32_w]; rw [c21b0]) | skip)
                  have H' := Aside0.mk H
                  clear H
                  go_wp2
                  go_meet
                  case rel => exact ⟨_, (false), (by first | rfl | (simp; done) | (simp [*]; done)), H', ⟨by have := HJ5.out; first | omega | exact Nat.le_refl _⟩, ⟨by repeat (first | (with_reducible first | exact HB.out | apply below_alloc | apply pw_below_drewN | apply below_drew1) | exact HB.out)⟩⟩
              · replace c20 := Bool.eq_false_iff.mpr c20
                subst c20
                have H1 : (erratalaw02_small.j1 kj5 false) = some r := by rw [if_neg (show ¬ (false = true) by decide)] at H; exact H
                clear H
                have H := H1
                clear H1
                have H' := Aside0.mk H
                clear H
                go_wp2
                go_meet
                case rel => exact ⟨_, (false), (by first | rfl | (simp; done) | (simp [*]; done)), H', ⟨by have := HJ5.out; first | omega | exact Nat.le_refl _⟩, ⟨by repeat (first | (with_reducible first | exact HB.out | apply below_alloc | apply pw_below_drewN | apply below_drew1) | exact HB.out)⟩⟩
        case rest =>
          clear HC17
          try clear c1
          try clear c2
          try clear p2
          try clear p3
          try clear q3
          try clear hx3
          try clear qi3
          try clear c12
          try clear c12b0
          try clear c12b1
          try clear c13
          try clear c15
          try clear c16
          try clear c17
          try clear c18
          try clear c19
          try clear c20
          try clear c21
          try clear c21b0
          try clear c21b1
          try clear c23
          try clear c23b0
          try clear c23b1
          try clear c24
          try clear c24b0
          try clear c24b1
          try clear c25
          try clear c25b0
          try clear c25b1
          try clear c26
          try clear c26b0
          try clear c26b1
          try clear c27
          try clear c27b0
          try clear c27b1
          try clear c28
          try clear c28b0
          try clear c28b1
          try clear p33
          try clear q33
          try clear hx33
          try clear qi33
          try clear hx334_0
          try clear hx335_0
          try clear hx336_0
          try clear p2
          try clear p334
          try clear p335
          try clear p336
          try clear q334
          try clear q335
          try clear q336
          obtain ⟨kq, x9_16, rfl, HA, HJ16, HB⟩ := hcut
          cases kq with
          | zero => exact absurd HA.out (by simp [erratalaw02_small.j1])
          | succ kj16 =>
            have H := HA.out
            clear HA
            simp only [erratalaw02_small.j1] at H
            by_cases c37 : x9_16 = true
            · subst c37
              have H1 : ((text_Pattern.f (⟨#[97, 42, 91, 33, 120, 45, 122, 93, 63]⟩ : ByteArray) (⟨#[97, 98, 99, 100]⟩ : ByteArray)).bind fun t337 => (if t337 = true then ((text_Pattern.f (⟨#[91, 93, 93]⟩ : ByteArray) (⟨#[93]⟩ : ByteArray)).bind fun t338 => (if t338 = true then ((text_Pattern.f (⟨#[91, 97]⟩ : ByteArray) (⟨#[91, 97]⟩ : ByteArray)).bind fun t339 => (if t339 = true then ((text_Pattern.f (⟨#[92, 42]⟩ : ByteArray) (⟨#[42]⟩ : ByteArray)).bind fun t340 => (if t340 = true then ((text_Pattern.f (⟨#[92, 42]⟩ : ByteArray) (⟨#[97, 98]⟩ : ByteArray)).bind fun t341 => (some (!t341))) else (some false))) else (some false))) else (some false))) else (some false))) = some r := by rw [if_pos rfl] at H; exact H
              clear H
              have H := H1
              clear H1
              replace H := Option.bind_eq_some_iff.mp H
              obtain ⟨t337, A380, H⟩ := H
              replace H : (if t337 = true then ((text_Pattern.f (⟨#[91, 93, 93]⟩ : ByteArray) (⟨#[93]⟩ : ByteArray)).bind fun t338 => (if t338 = true then ((text_Pattern.f (⟨#[91, 97]⟩ : ByteArray) (⟨#[91, 97]⟩ : ByteArray)).bind fun t339 => (if t339 = true then ((text_Pattern.f (⟨#[92, 42]⟩ : ByteArray) (⟨#[42]⟩ : ByteArray)).bind fun t340 => (if t340 = true then ((text_Pattern.f (⟨#[92, 42]⟩ : ByteArray) (⟨#[97, 98]⟩ : ByteArray)).bind fun t341 => (some (!t341))) else (some false))) else (some false))) else (some false))) else (some false)) = some r := H
              have A38 := Aside0.mk A380
              clear A380
              by_cases c39 : t337 = true
              · subst c39
                have H1 : ((text_Pattern.f (⟨#[91, 93, 93]⟩ : ByteArray) (⟨#[93]⟩ : ByteArray)).bind fun t338 => (if t338 = true then ((text_Pattern.f (⟨#[91, 97]⟩ : ByteArray) (⟨#[91, 97]⟩ : ByteArray)).bind fun t339 => (if t339 = true then ((text_Pattern.f (⟨#[92, 42]⟩ : ByteArray) (⟨#[42]⟩ : ByteArray)).bind fun t340 => (if t340 = true then ((text_Pattern.f (⟨#[92, 42]⟩ : ByteArray) (⟨#[97, 98]⟩ : ByteArray)).bind fun t341 => (some (!t341))) else (some false))) else (some false))) else (some false))) = some r := by rw [if_pos rfl] at H; exact H
                clear H
                have H := H1
                clear H1
                replace H := Option.bind_eq_some_iff.mp H
                obtain ⟨t338, A400, H⟩ := H
                replace H : (if t338 = true then ((text_Pattern.f (⟨#[91, 97]⟩ : ByteArray) (⟨#[91, 97]⟩ : ByteArray)).bind fun t339 => (if t339 = true then ((text_Pattern.f (⟨#[92, 42]⟩ : ByteArray) (⟨#[42]⟩ : ByteArray)).bind fun t340 => (if t340 = true then ((text_Pattern.f (⟨#[92, 42]⟩ : ByteArray) (⟨#[97, 98]⟩ : ByteArray)).bind fun t341 => (some (!t341))) else (some false))) else (some false))) else (some false)) = some r := H
                have A40 := Aside0.mk A400
                clear A400
                by_cases c41 : t338 = true
                · subst c41
                  have H1 : ((text_Pattern.f (⟨#[91, 97]⟩ : ByteArray) (⟨#[91, 97]⟩ : ByteArray)).bind fun t339 => (if t339 = true then ((text_Pattern.f (⟨#[92, 42]⟩ : ByteArray) (⟨#[42]⟩ : ByteArray)).bind fun t340 => (if t340 = true then ((text_Pattern.f (⟨#[92, 42]⟩ : ByteArray) (⟨#[97, 98]⟩ : ByteArray)).bind fun t341 => (some (!t341))) else (some false))) else (some false))) = some r := by rw [if_pos rfl] at H; exact H
                  clear H
                  have H := H1
                  clear H1
                  replace H := Option.bind_eq_some_iff.mp H
                  obtain ⟨t339, A420, H⟩ := H
                  replace H : (if t339 = true then ((text_Pattern.f (⟨#[92, 42]⟩ : ByteArray) (⟨#[42]⟩ : ByteArray)).bind fun t340 => (if t340 = true then ((text_Pattern.f (⟨#[92, 42]⟩ : ByteArray) (⟨#[97, 98]⟩ : ByteArray)).bind fun t341 => (some (!t341))) else (some false))) else (some false)) = some r := H
                  have A42 := Aside0.mk A420
                  clear A420
                  by_cases c43 : t339 = true
                  · subst c43
                    have H1 : ((text_Pattern.f (⟨#[92, 42]⟩ : ByteArray) (⟨#[42]⟩ : ByteArray)).bind fun t340 => (if t340 = true then ((text_Pattern.f (⟨#[92, 42]⟩ : ByteArray) (⟨#[97, 98]⟩ : ByteArray)).bind fun t341 => (some (!t341))) else (some false))) = some r := by rw [if_pos rfl] at H; exact H
                    clear H
                    have H := H1
                    clear H1
                    replace H := Option.bind_eq_some_iff.mp H
                    obtain ⟨t340, A440, H⟩ := H
                    replace H : (if t340 = true then ((text_Pattern.f (⟨#[92, 42]⟩ : ByteArray) (⟨#[97, 98]⟩ : ByteArray)).bind fun t341 => (some (!t341))) else (some false)) = some r := H
                    have A44 := Aside0.mk A440
                    clear A440
                    by_cases c45 : t340 = true
                    · subst c45
                      have H1 : ((text_Pattern.f (⟨#[92, 42]⟩ : ByteArray) (⟨#[97, 98]⟩ : ByteArray)).bind fun t341 => (some (!t341))) = some r := by rw [if_pos rfl] at H; exact H
                      clear H
                      have H := H1
                      clear H1
                      replace H := Option.bind_eq_some_iff.mp H
                      obtain ⟨t341, A460, H⟩ := H
                      replace H : (some (!t341)) = some r := H
                      have A46 := Aside0.mk A460
                      clear A460
                      obtain rfl := Option.some.inj H
                      go_wp2_with (first | (go_at_call 18; (with_reducible refine (text_Pattern.calls (⟨#[97, 42, 91, 33, 120, 45, 122, 93, 63]⟩ : ByteArray) (⟨#[97, 98, 99, 100]⟩ : ByteArray) true _ A38.out).mono ?_); rintro e w47 ⟨rfl, hb⟩; have n0_ := Aside0.mk (below_step (by repeat (first | (with_reducible first | exact HB.out | apply below_alloc | apply pw_below_drewN | apply below_drew1) | exact HB.out)) hb); clear HB; have HB := n0_; clear n0_; (try clear hb); (try clear hb2); (try clear hk); (try clear hi)) | (go_at_call 18; (with_reducible refine (text_Pattern.calls (⟨#[91, 93, 93]⟩ : ByteArray) (⟨#[93]⟩ : ByteArray) true _ A40.out).mono ?_); rintro e w48 ⟨rfl, hb⟩; have n0_ := Aside0.mk (below_step (by repeat (first | (with_reducible first | exact HB.out | apply below_alloc | apply pw_below_drewN | apply below_drew1) | exact HB.out)) hb); clear HB; have HB := n0_; clear n0_; (try clear hb); (try clear hb2); (try clear hk); (try clear hi)) | (go_at_call 18; (with_reducible refine (text_Pattern.calls (⟨#[91, 97]⟩ : ByteArray) (⟨#[91, 97]⟩ : ByteArray) true _ A42.out).mono ?_); rintro e w49 ⟨rfl, hb⟩; have n0_ := Aside0.mk (below_step (by repeat (first | (with_reducible first | exact HB.out | apply below_alloc | apply pw_below_drewN | apply below_drew1) | exact HB.out)) hb); clear HB; have HB := n0_; clear n0_; (try clear hb); (try clear hb2); (try clear hk); (try clear hi)) | (go_at_call 18; (with_reducible refine (text_Pattern.calls (⟨#[92, 42]⟩ : ByteArray) (⟨#[42]⟩ : ByteArray) true _ A44.out).mono ?_); rintro e w50 ⟨rfl, hb⟩; have n0_ := Aside0.mk (below_step (by repeat (first | (with_reducible first | exact HB.out | apply below_alloc | apply pw_below_drewN | apply below_drew1) | exact HB.out)) hb); clear HB; have HB := n0_; clear n0_; (try clear hb); (try clear hb2); (try clear hk); (try clear hi)) | (go_at_call 18; (with_reducible refine (text_Pattern.calls (⟨#[92, 42]⟩ : ByteArray) (⟨#[97, 98]⟩ : ByteArray) t341 _ A46.out).mono ?_); rintro e w51 ⟨rfl, hb⟩; have n0_ := Aside0.mk (below_step (by repeat (first | (with_reducible first | exact HB.out | apply below_alloc | apply pw_below_drewN | apply below_drew1) | exact HB.out)) hb); clear HB; have HB := n0_; clear n0_; (try clear hb); (try clear hb2); (try clear hk); (try clear hi)))
                      go_ret
                      exact ⟨by first | rfl | (simp [errW_none, errW_some] <;> rfl) | (simp [*, errW_none, errW_some] <;> rfl), by repeat (first | (with_reducible first | exact HB.out | apply below_alloc | apply pw_below_drewN | apply below_drew1) | exact HB.out)⟩
                    · replace c45 := Bool.eq_false_iff.mpr c45
                      subst c45
                      have H1 : (some false) = some r := by rw [if_neg (show ¬ (false = true) by decide)] at H; exact H
                      clear H
                      have H := H1
                      clear H1
                      obtain rfl := Option.some.inj H
                      go_wp2_with (first | (go_at_call 18; (with_reducible refine (text_Pattern.calls (⟨#[97, 42, 91, 33, 120, 45, 122, 93, 63]⟩ : ByteArray) (⟨#[97, 98, 99, 100]⟩ : ByteArray) true _ A38.out).mono ?_); rintro e w52 ⟨rfl, hb⟩; have n0_ := Aside0.mk (below_step (by repeat (first | (with_reducible first | exact HB.out | apply below_alloc | apply pw_below_drewN | apply below_drew1) | exact HB.out)) hb); clear HB; have HB := n0_; clear n0_; (try clear hb); (try clear hb2); (try clear hk); (try clear hi)) | (go_at_call 18; (with_reducible refine (text_Pattern.calls (⟨#[91, 93, 93]⟩ : ByteArray) (⟨#[93]⟩ : ByteArray) true _ A40.out).mono ?_); rintro e w53 ⟨rfl, hb⟩; have n0_ := Aside0.mk (below_step (by repeat (first | (with_reducible first | exact HB.out | apply below_alloc | apply pw_below_drewN | apply below_drew1) | exact HB.out)) hb); clear HB; have HB := n0_; clear n0_; (try clear hb); (try clear hb2); (try clear hk); (try clear hi)) | (go_at_call 18; (with_reducible refine (text_Pattern.calls (⟨#[91, 97]⟩ : ByteArray) (⟨#[91, 97]⟩ : ByteArray) true _ A42.out).mono ?_); rintro e w54 ⟨rfl, hb⟩; have n0_ := Aside0.mk (below_step (by repeat (first | (with_reducible first | exact HB.out | apply below_alloc | apply pw_below_drewN | apply below_drew1) | exact HB.out)) hb); clear HB; have HB := n0_; clear n0_; (try clear hb); (try clear hb2); (try clear hk); (try clear hi)) | (go_at_call 18; (with_reducible refine (text_Pattern.calls (⟨#[92, 42]⟩ : ByteArray) (⟨#[42]⟩ : ByteArray) false _ A44.out).mono ?_); rintro e w55 ⟨rfl, hb⟩; have n0_ := Aside0.mk (below_step (by repeat (first | (with_reducible first | exact HB.out | apply below_alloc | apply pw_below_drewN | apply below_drew1) | exact HB.out)) hb); clear HB; have HB := n0_; clear n0_; (try clear hb); (try clear hb2); (try clear hk); (try clear hi)))
                      go_ret
                      exact ⟨by first | rfl | (simp [errW_none, errW_some] <;> rfl) | (simp [*, errW_none, errW_some] <;> rfl), by repeat (first | (with_reducible first | exact HB.out | apply below_alloc | apply pw_below_drewN | apply below_drew1) | exact HB.out)⟩
                  · replace c43 := Bool.eq_false_iff.mpr c43
                    subst c43
                    have H1 : (some false) = some r := by rw [if_neg (show ¬ (false = true) by decide)] at H; exact H
                    clear H
                    have H := H1
                    clear H1
                    obtain rfl := Option.some.inj H
                    go_wp2_with (first | (go_at_call 18; (with_reducible refine (text_Pattern.calls (⟨#[97, 42, 91, 33, 120, 45, 122, 93, 63]⟩ : ByteArray) (⟨#[97, 98, 99, 100]⟩ : ByteArray) true _ A38.out).mono ?_); rintro e w56 ⟨rfl, hb⟩; have n0_ := Aside0.mk (below_step (by repeat (first | (with_reducible first | exact HB.out | apply below_alloc | apply pw_below_drewN | apply below_drew1) | exact HB.out)) hb); clear HB; have HB := n0_; clear n0_; (try clear hb); (try clear hb2); (try clear hk); (try clear hi)) | (go_at_call 18; (with_reducible refine (text_Pattern.calls (⟨#[91, 93, 93]⟩ : ByteArray) (⟨#[93]⟩ : ByteArray) true _ A40.out).mono ?_); rintro e w57 ⟨rfl, hb⟩; have n0_ := Aside0.mk (below_step (by repeat (first | (with_reducible first | exact HB.out | apply below_alloc | apply pw_below_drewN | apply below_drew1) | exact HB.out)) hb); clear HB; have HB := n0_; clear n0_; (try clear hb); (try clear hb2); (try clear hk); (try clear hi)) | (go_at_call 18; (with_reducible refine (text_Pattern.calls (⟨#[91, 97]⟩ : ByteArray) (⟨#[91, 97]⟩ : ByteArray) false _ A42.out).mono ?_); rintro e w58 ⟨rfl, hb⟩; have n0_ := Aside0.mk (below_step (by repeat (first | (with_reducible first | exact HB.out | apply below_alloc | apply pw_below_drewN | apply below_drew1) | exact HB.out)) hb); clear HB; have HB := n0_; clear n0_; (try clear hb); (try clear hb2); (try clear hk); (try clear hi)))
                    go_ret
                    exact ⟨by first | rfl | (simp [errW_none, errW_some] <;> rfl) | (simp [*, errW_none, errW_some] <;> rfl), by repeat (first | (with_reducible first | exact HB.out | apply below_alloc | apply pw_below_drewN | apply below_drew1) | exact HB.out)⟩
                · replace c41 := Bool.eq_false_iff.mpr c41
                  subst c41
                  have H1 : (some false) = some r := by rw [if_neg (show ¬ (false = true) by decide)] at H; exact H
                  clear H
                  have H := H1
                  clear H1
                  obtain rfl := Option.some.inj H
                  go_wp2_with (first | (go_at_call 18; (with_reducible refine (text_Pattern.calls (⟨#[97, 42, 91, 33, 120, 45, 122, 93, 63]⟩ : ByteArray) (⟨#[97, 98, 99, 100]⟩ : ByteArray) true _ A38.out).mono ?_); rintro e w59 ⟨rfl, hb⟩; have n0_ := Aside0.mk (below_step (by repeat (first | (with_reducible first | exact HB.out | apply below_alloc | apply pw_below_drewN | apply below_drew1) | exact HB.out)) hb); clear HB; have HB := n0_; clear n0_; (try clear hb); (try clear hb2); (try clear hk); (try clear hi)) | (go_at_call 18; (with_reducible refine (text_Pattern.calls (⟨#[91, 93, 93]⟩ : ByteArray) (⟨#[93]⟩ : ByteArray) false _ A40.out).mono ?_); rintro e w60 ⟨rfl, hb⟩; have n0_ := Aside0.mk (below_step (by repeat (first | (with_reducible first | exact HB.out | apply below_alloc | apply pw_below_drewN | apply below_drew1) | exact HB.out)) hb); clear HB; have HB := n0_; clear n0_; (try clear hb); (try clear hb2); (try clear hk); (try clear hi)))
                  go_ret
                  exact ⟨by first | rfl | (simp [errW_none, errW_some] <;> rfl) | (simp [*, errW_none, errW_some] <;> rfl), by repeat (first | (with_reducible first | exact HB.out | apply below_alloc | apply pw_below_drewN | apply below_drew1) | exact HB.out)⟩
              · replace c39 := Bool.eq_false_iff.mpr c39
                subst c39
                have H1 : (some false) = some r := by rw [if_neg (show ¬ (false = true) by decide)] at H; exact H
                clear H
                have H := H1
                clear H1
                obtain rfl := Option.some.inj H
                go_wp2_with (first | (go_at_call 18; (with_reducible refine (text_Pattern.calls (⟨#[97, 42, 91, 33, 120, 45, 122, 93, 63]⟩ : ByteArray) (⟨#[97, 98, 99, 100]⟩ : ByteArray) false _ A38.out).mono ?_); rintro e w61 ⟨rfl, hb⟩; have n0_ := Aside0.mk (below_step (by repeat (first | (with_reducible first | exact HB.out | apply below_alloc | apply pw_below_drewN | apply below_drew1) | exact HB.out)) hb); clear HB; have HB := n0_; clear n0_; (try clear hb); (try clear hb2); (try clear hk); (try clear hi)))
                go_ret
                exact ⟨by first | rfl | (simp [errW_none, errW_some] <;> rfl) | (simp [*, errW_none, errW_some] <;> rfl), by repeat (first | (with_reducible first | exact HB.out | apply below_alloc | apply pw_below_drewN | apply below_drew1) | exact HB.out)⟩
            · replace c37 := Bool.eq_false_iff.mpr c37
              subst c37
              have H1 : (some false) = some r := by rw [if_neg (show ¬ (false = true) by decide)] at H; exact H
              clear H
              have H := H1
              clear H1
              obtain rfl := Option.some.inj H
              go_wp2
              go_ret
              exact ⟨by first | rfl | (simp [errW_none, errW_some] <;> rfl) | (simp [*, errW_none, errW_some] <;> rfl), by repeat (first | (with_reducible first | exact HB.out | apply below_alloc | apply pw_below_drewN | apply below_drew1) | exact HB.out)⟩

end Go.Proofs.YtfefbnfmngdicaaDoor.PX
