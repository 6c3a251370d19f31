-- Written by a program of this session (wip/tools): the kit's printer, turned to take contracts that were proved by hand.
import Derived.Test.YtfefbnfmngdicaaDoorPX0
import Derived.Test.YtfefbnfmngdicaaDoorPZ1
import Derived.Test.YtfefbnfmngdicaaDoorPY3
import Derived.Test.YtfefbnfmngdicaaDoorE10
import Derived.Test.YtfefbnfmngdicaaDoorE5
import Derived.Test.YtfefbnfmngdicaaDoorE7
import Derived.Test.YtfefbnfmngdicaaDoorEnv
import Derived.Test.YtfefbnfmngdicaaDoorZ1
namespace Go.Proofs.YtfefbnfmngdicaaDoor.PX
open Go.RowKit Go.Proofs.YtfefbnfmngdicaaDoorW.PrintWords Go.Proofs.YtfefbnfmngdicaaDoorW.PrintLast Go.Proofs.YtfefbnfmngdicaaDoorW.PrintMore
attribute [local go_sem] max2_int min2_int max_two min_two max_three min_three max_four min_four   -- for this text's walks alone
set_option linter.unusedVariables false
set_option linter.unusedSimpArgs false

/-! ### erratalaw17_LexTells: function 10 -/
def erratalaw17_LexTells.f (k : Nat) (a0 : ByteArray) : Option (Bool) := (erratalaw17_small.f k).bind fun t164 => (if (a0.size : Int) > 9000 then (some t164) else ((lex_Lex.f a0).bind fun bt165 => ((errataref17_Lex.f a0).bind fun bt170 => (if t164 = true then (if bt165.2.1 = bt170.2.1 then (if bt165.2.2 = bt170.2.2 then ((errataref17_Same.f bt165.1 bt170.1 0).bind fun t175 => (if t175 = true then ((lex_Write.f bt165.1).bind fun t176 => ((errataref17_Write.f k bt170.1).bind fun t177 => (some (t176.toList == t177.toList)))) else (some false))) else (some false)) else (some false)) else (some false)))))
theorem erratalaw17_LexTells.mono : ∀ a0 k, LeO (erratalaw17_LexTells.f k a0) (erratalaw17_LexTells.f (k + 1) a0) := by
  intro a0 k
  unfold erratalaw17_LexTells.f
  repeat' first
      | (with_reducible exact erratalaw17_small.mono _)
      | (with_reducible exact errataref17_Write.mono _ _)
      | (with_reducible exact LeO.refl _)
      | (with_reducible exact LeO.none _)
      | (with_reducible refine LeO.ite ?_ ?_)
      | (with_reducible refine LeO.bind ?_ (fun _ => ?_))
      | exact erratalaw17_small.mono _
      | exact errataref17_Write.mono _ _
      | exact LeO.none _
      | refine LeO.ite ?_ ?_
      | refine LeO.bind ?_ (fun _ => ?_)
set_option maxHeartbeats 8000000 in
set_option maxRecDepth 100000 in
theorem erratalaw17_LexTells.calls (k : Nat) (a0 : ByteArray) (r : Bool) (w : World) (hE : Env w) (h : erratalaw17_LexTells.f k a0 = some r) :
    Calls Tryd.prog 10 #[.string a0] w fun e w' => e = .returned (.bool r) ∧ Below w.heap.size w w' := by
  have HB := Aside0.mk (Below.refl w.heap.size w)
  have HE := Aside0.mk hE
  clear hE
  have H : ((erratalaw17_small.f k).bind fun t164 => (if (a0.size : Int) > 9000 then (some t164) else ((lex_Lex.f a0).bind fun bt165 => ((errataref17_Lex.f a0).bind fun bt170 => (if t164 = true then (if bt165.2.1 = bt170.2.1 then (if bt165.2.2 = bt170.2.2 then ((errataref17_Same.f bt165.1 bt170.1 0).bind fun t175 => (if t175 = true then ((lex_Write.f bt165.1).bind fun t176 => ((errataref17_Write.f k bt170.1).bind fun t177 => (some (t176.toList == t177.toList)))) else (some false))) else (some false)) else (some false)) else (some false)))))) = some r := h
  clear h
  replace H := Option.bind_eq_some_iff.mp H
  obtain ⟨t164, A20, H⟩ := H
  replace H : (if (a0.size : Int) > 9000 then (some t164) else ((lex_Lex.f a0).bind fun bt165 => ((errataref17_Lex.f a0).bind fun bt170 => (if t164 = true then (if bt165.2.1 = bt170.2.1 then (if bt165.2.2 = bt170.2.2 then ((errataref17_Same.f bt165.1 bt170.1 0).bind fun t175 => (if t175 = true then ((lex_Write.f bt165.1).bind fun t176 => ((errataref17_Write.f k bt170.1).bind fun t177 => (some (t176.toList == t177.toList)))) else (some false))) else (some false)) else (some false)) else (some false))))) = some r := H
  have A2 := Aside0.mk A20
  clear A20
  by_cases c3 : (a0.size : Int) > 9000
  · rw [if_pos c3] at H
    have c3b0 : decide (9000 < (a0.size : Int)) = true := decide_eq_true c3
    have c3b1 : decide (9000 < a0.size) = true := decide_eq_true (by omega)
    clear c3
    obtain rfl := Option.some.inj H
    go_enter Tryd.func10, Tryd.ntmps10
    go_wp2_with (first | ((with_reducible refine gate_callee (f := 26) rfl ?_); refine goesL_ (some 10) rfl rfl Tryd.func26 (by kernel_rfl) rfl #[] rfl (by (try simp only [List.map_toArray, List.map_cons, List.map_nil]); first | done | rfl | (simp only [List.length_drop, List.length_take]; rfl)) ?_; (with_reducible refine (erratalaw17_small.calls k  t164 _ ?side1 A2.out).mono ?_); (case side1 => exact envB HE.out (by repeat (first | (with_reducible first | exact HB.out | apply below_alloc | apply pw_below_drewN | apply below_drew1) | exact HB.out))); rintro e w4 ⟨rfl, hb⟩; refine ⟨_, rfl, ?_⟩; have n0_ := Aside0.mk (below_step (by repeat (first | (with_reducible first | exact HB.out | apply below_alloc | apply pw_below_drewN | apply below_drew1) | exact HB.out)) hb); clear HB; have HB := n0_; clear n0_; (try clear hb); (try clear hb2); (try clear hk); (try clear hi)))
    go_ret
    exact ⟨by first | rfl | (simp [errW_none, errW_some] <;> rfl) | (simp [*, errW_none, errW_some] <;> rfl), by repeat (first | (with_reducible first | exact HB.out | apply below_alloc | apply pw_below_drewN | apply below_drew1) | exact HB.out)⟩
  · rw [if_neg c3] at H
    have c3b0 : decide (9000 < (a0.size : Int)) = false := decide_eq_false c3
    have c3b1 : decide (9000 < a0.size) = false := decide_eq_false (by omega)
    clear c3
    replace H := Option.bind_eq_some_iff.mp H
    obtain ⟨⟨t165, t166, t167⟩, A50, H⟩ := H
    replace H : ((errataref17_Lex.f a0).bind fun bt170 => (if t164 = true then (if t166 = bt170.2.1 then (if t167 = bt170.2.2 then ((errataref17_Same.f t165 bt170.1 0).bind fun t175 => (if t175 = true then ((lex_Write.f t165).bind fun t176 => ((errataref17_Write.f k bt170.1).bind fun t177 => (some (t176.toList == t177.toList)))) else (some false))) else (some false)) else (some false)) else (some false))) = some r := H
    have A5 := Aside0.mk A50
    clear A50
    replace H := Option.bind_eq_some_iff.mp H
    obtain ⟨⟨t170, t171, t172⟩, A60, H⟩ := H
    replace H : (if t164 = true then (if t166 = t171 then (if t167 = t172 then ((errataref17_Same.f t165 t170 0).bind fun t175 => (if t175 = true then ((lex_Write.f t165).bind fun t176 => ((errataref17_Write.f k t170).bind fun t177 => (some (t176.toList == t177.toList)))) else (some false))) else (some false)) else (some false)) else (some false)) = some r := H
    have A6 := Aside0.mk A60
    clear A60
    by_cases c7 : t164 = true
    · subst c7
      have H1 : (if t166 = t171 then (if t167 = t172 then ((errataref17_Same.f t165 t170 0).bind fun t175 => (if t175 = true then ((lex_Write.f t165).bind fun t176 => ((errataref17_Write.f k t170).bind fun t177 => (some (t176.toList == t177.toList)))) else (some false))) else (some false)) else (some false)) = some r := by rw [if_pos rfl] at H; exact H
      clear H
      have H := H1
      clear H1
      by_cases c8 : t166 = t171
      · rw [if_pos c8] at H
        have c8b0 : (t166 == t171) = true := beq_iff_eq.mpr c8
        have c8b1 : (t166 != t171) = false := bne_eq_false_iff_eq.mpr c8
        clear c8
        by_cases c9 : t167 = t172
        · rw [if_pos c9] at H
          have c9b0 : (t167 == t172) = true := beq_iff_eq.mpr c9
          have c9b1 : (t167 != t172) = false := bne_eq_false_iff_eq.mpr c9
          clear c9
          replace H := Option.bind_eq_some_iff.mp H
          obtain ⟨t175, A100, H⟩ := H
          replace H : (if t175 = true then ((lex_Write.f t165).bind fun t176 => ((errataref17_Write.f k t170).bind fun t177 => (some (t176.toList == t177.toList)))) else (some false)) = some r := H
          have A10 := Aside0.mk A100
          clear A100
          by_cases c11 : t175 = true
          · subst c11
            have H1 : ((lex_Write.f t165).bind fun t176 => ((errataref17_Write.f k t170).bind fun t177 => (some (t176.toList == t177.toList)))) = some r := by rw [if_pos rfl] at H; exact H
            clear H
            have H := H1
            clear H1
            replace H := Option.bind_eq_some_iff.mp H
            obtain ⟨t176, A120, H⟩ := H
            replace H : ((errataref17_Write.f k t170).bind fun t177 => (some (t176.toList == t177.toList))) = some r := H
            have A12 := Aside0.mk A120
            clear A120
            replace H := Option.bind_eq_some_iff.mp H
            obtain ⟨t177, A130, H⟩ := H
            replace H : (some (t176.toList == t177.toList)) = some r := H
            have A13 := Aside0.mk A130
            clear A130
            obtain rfl := Option.some.inj H
            go_enter Tryd.func10, Tryd.ntmps10
            go_wp2_with (first | ((with_reducible refine gate_callee (f := 26) rfl ?_); refine goesL_ (some 10) rfl rfl Tryd.func26 (by kernel_rfl) rfl #[] rfl (by (try simp only [List.map_toArray, List.map_cons, List.map_nil]); first | done | rfl | (simp only [List.length_drop, List.length_take]; rfl)) ?_; (with_reducible refine (erratalaw17_small.calls k  true _ ?side1 A2.out).mono ?_); (case side1 => exact envB HE.out (by repeat (first | (with_reducible first | exact HB.out | apply below_alloc | apply pw_below_drewN | apply below_drew1) | exact HB.out))); rintro e w14 ⟨rfl, hb⟩; refine ⟨_, rfl, ?_⟩; have n0_ := Aside0.mk (below_step (by repeat (first | (with_reducible first | exact HB.out | apply below_alloc | apply pw_below_drewN | apply below_drew1) | exact HB.out)) hb); clear HB; have HB := n0_; clear n0_; (try clear hb); (try clear hb2); (try clear hk); (try clear hi)) | ((with_reducible refine gate_callee (f := 27) rfl ?_); refine goesL_ (some 17) rfl rfl Tryd.func27 (by kernel_rfl) rfl #[.string a0] rfl (by (try simp only [List.map_toArray, List.map_cons, List.map_nil]); first | done | rfl | (simp only [List.length_drop, List.length_take]; rfl)) ?_; (with_reducible refine (lex_Lex.calls a0 t165 t166 t167 _ ?side1 A5.out).mono ?_); (case side1 => exact envB HE.out (by repeat (first | (with_reducible first | exact HB.out | apply below_alloc | apply pw_below_drewN | apply below_drew1) | exact HB.out))); rintro e w15 ⟨v168, rfl, ho0, hb⟩; refine ⟨_, rfl, ?_⟩; have n0_ := Aside0.mk (Kd.R_lower ho0 (below_size (by repeat (first | (with_reducible first | exact HB.out | apply below_alloc | apply pw_below_drewN | apply below_drew1) | exact HB.out)))); have n1_ := Aside0.mk (below_step (by repeat (first | (with_reducible first | exact HB.out | apply below_alloc | apply pw_below_drewN | apply below_drew1) | exact HB.out)) hb); clear HB; have HO169 := n0_; have HB := n1_; clear n0_ n1_; (try clear hb); (try clear hb2); (try clear hk); (try clear hi); (try clear ho0)) | ((with_reducible refine gate_callee (f := 30) rfl ?_); refine goesL_ (some 23) rfl rfl Tryd.func30 (by kernel_rfl) rfl #[.string a0] rfl (by (try simp only [List.map_toArray, List.map_cons, List.map_nil]); first | done | rfl | (simp only [List.length_drop, List.length_take]; rfl)) ?_; (with_reducible refine (errataref17_Lex.calls a0 t170 t171 t172 _ A6.out).mono ?_); rintro e w16 ⟨v173, rfl, ho0, hb⟩; refine ⟨_, rfl, ?_⟩; have n0_ := Aside0.mk (Kd.R_elder' (by (with_reducible repeat (first | apply Kd.R_alloc | apply Kd.R_drewN | apply Kd.R_drew)); exact HO169.out) (Kd.R_base ho0) hb); have n1_ := Aside0.mk (Kd.R_lower (Kd.R_new' ho0 (Kd.R_lt (by (with_reducible repeat (first | apply Kd.R_alloc | apply Kd.R_drewN | apply Kd.R_drew)); exact HO169.out))) (below_size (by repeat (first | (with_reducible first | exact HB.out | apply below_alloc | apply pw_below_drewN | apply below_drew1) | exact HB.out)))); have n2_ := Aside0.mk (below_step (by repeat (first | (with_reducible first | exact HB.out | apply below_alloc | apply pw_below_drewN | apply below_drew1) | exact HB.out)) hb); clear HO169; clear HB; have HO169 := n0_; have HO174 := n1_; have HB := n2_; clear n0_ n1_ n2_; (try clear hb); (try clear hb2); (try clear hk); (try clear hi); (try clear ho0); obtain ⟨Ao17, co17, eo17⟩ := Kd.R_slice HO169.out; subst eo17; obtain ⟨Ao18, co18, eo18⟩ := Kd.R_slice HO174.out; subst eo18) | (go_at_call 28; (with_reducible refine (errataref17_Same.calls _ _ t165 _ _ t170 0 true _ ?side1 ?side2 ?side3 ?side4 A10.out).mono ?_); (case side1 => repeat (first | exact (Kd.R_reads' HO169.out).2.2 | (with_reducible refine Kd.C_alloc ?_ _) | (with_reducible refine Kd.C_drewN ?_ _) | (with_reducible refine Kd.C_drew ?_))); (case side2 => exact (Kd.R_reads' HO169.out).2.1); (case side3 => repeat (first | exact (Kd.R_reads' HO174.out).2.2 | (with_reducible refine Kd.C_alloc ?_ _) | (with_reducible refine Kd.C_drewN ?_ _) | (with_reducible refine Kd.C_drew ?_))); (case side4 => exact (Kd.R_reads' HO174.out).2.1); rintro e w19 ⟨rfl, hb⟩; have n0_ := Aside0.mk (Kd.R_below (by (with_reducible repeat (first | apply Kd.R_alloc | apply Kd.R_drewN | apply Kd.R_drew)); exact HO169.out) hb); have n1_ := Aside0.mk (Kd.R_below (by (with_reducible repeat (first | apply Kd.R_alloc | apply Kd.R_drewN | apply Kd.R_drew)); exact HO174.out) hb); have n2_ := Aside0.mk (below_step (by repeat (first | (with_reducible first | exact HB.out | apply below_alloc | apply pw_below_drewN | apply below_drew1) | exact HB.out)) hb); clear HO169; clear HO174; clear HB; have HO169 := n0_; have HO174 := n1_; have HB := n2_; clear n0_ n1_ n2_; (try clear hb); (try clear hb2); (try clear hk); (try clear hi)) | (go_at_call 31; (with_reducible refine (lex_Write.calls _ _ t165 t176 _ ?side1 ?side2 A12.out).mono ?_); (case side1 => repeat (first | exact (Kd.R_reads' HO169.out).2.2 | (with_reducible refine Kd.C_alloc ?_ _) | (with_reducible refine Kd.C_drewN ?_ _) | (with_reducible refine Kd.C_drew ?_))); (case side2 => exact (Kd.R_reads' HO169.out).2.1); rintro e w20 ⟨rfl, hb⟩; have n0_ := Aside0.mk (Kd.R_below (by (with_reducible repeat (first | apply Kd.R_alloc | apply Kd.R_drewN | apply Kd.R_drew)); exact HO169.out) hb); have n1_ := Aside0.mk (Kd.R_below (by (with_reducible repeat (first | apply Kd.R_alloc | apply Kd.R_drewN | apply Kd.R_drew)); exact HO174.out) hb); have n2_ := Aside0.mk (below_step (by repeat (first | (with_reducible first | exact HB.out | apply below_alloc | apply pw_below_drewN | apply below_drew1) | exact HB.out)) hb); clear HO169; clear HO174; clear HB; have HO169 := n0_; have HO174 := n1_; have HB := n2_; clear n0_ n1_ n2_; (try clear hb); (try clear hb2); (try clear hk); (try clear hi)) | (go_at_call 32; (with_reducible refine (errataref17_Write.calls k _ _ t170 t177 _ ?side1 ?side2 A13.out).mono ?_); (case side1 => repeat (first | exact (Kd.R_reads' HO174.out).2.2 | (with_reducible refine Kd.C_alloc ?_ _) | (with_reducible refine Kd.C_drewN ?_ _) | (with_reducible refine Kd.C_drew ?_))); (case side2 => exact (Kd.R_reads' HO174.out).2.1); rintro e w21 ⟨rfl, hb⟩; have n0_ := Aside0.mk (Kd.R_below (by (with_reducible repeat (first | apply Kd.R_alloc | apply Kd.R_drewN | apply Kd.R_drew)); exact HO169.out) hb); have n1_ := Aside0.mk (Kd.R_below (by (with_reducible repeat (first | apply Kd.R_alloc | apply Kd.R_drewN | apply Kd.R_drew)); exact HO174.out) hb); have n2_ := Aside0.mk (below_step (by repeat (first | (with_reducible first | exact HB.out | apply below_alloc | apply pw_below_drewN | apply below_drew1) | exact HB.out)) hb); clear HO169; clear HO174; clear HB; have HO169 := n0_; have HO174 := n1_; have HB := n2_; clear n0_ n1_ n2_; (try clear hb); (try clear hb2); (try clear hk); (try clear hi)))
            go_ret
            exact ⟨by first | rfl | (simp [errW_none, errW_some] <;> rfl) | (simp [*, errW_none, errW_some] <;> rfl), by repeat (first | (with_reducible first | exact HB.out | apply below_alloc | apply pw_below_drewN | apply below_drew1) | exact HB.out)⟩
          · replace c11 := Bool.eq_false_iff.mpr c11
            subst c11
            have H1 : (some false) = some r := by rw [if_neg (show ¬ (false = true) by decide)] at H; exact H
            clear H
            have H := H1
            clear H1
            obtain rfl := Option.some.inj H
            go_enter Tryd.func10, Tryd.ntmps10
            go_wp2_with (first | ((with_reducible refine gate_callee (f := 26) rfl ?_); refine goesL_ (some 10) rfl rfl Tryd.func26 (by kernel_rfl) rfl #[] rfl (by (try simp only [List.map_toArray, List.map_cons, List.map_nil]); first | done | rfl | (simp only [List.length_drop, List.length_take]; rfl)) ?_; (with_reducible refine (erratalaw17_small.calls k  true _ ?side1 A2.out).mono ?_); (case side1 => exact envB HE.out (by repeat (first | (with_reducible first | exact HB.out | apply below_alloc | apply pw_below_drewN | apply below_drew1) | exact HB.out))); rintro e w22 ⟨rfl, hb⟩; refine ⟨_, rfl, ?_⟩; have n0_ := Aside0.mk (below_step (by repeat (first | (with_reducible first | exact HB.out | apply below_alloc | apply pw_below_drewN | apply below_drew1) | exact HB.out)) hb); clear HB; have HB := n0_; clear n0_; (try clear hb); (try clear hb2); (try clear hk); (try clear hi)) | ((with_reducible refine gate_callee (f := 27) rfl ?_); refine goesL_ (some 17) rfl rfl Tryd.func27 (by kernel_rfl) rfl #[.string a0] rfl (by (try simp only [List.map_toArray, List.map_cons, List.map_nil]); first | done | rfl | (simp only [List.length_drop, List.length_take]; rfl)) ?_; (with_reducible refine (lex_Lex.calls a0 t165 t166 t167 _ ?side1 A5.out).mono ?_); (case side1 => exact envB HE.out (by repeat (first | (with_reducible first | exact HB.out | apply below_alloc | apply pw_below_drewN | apply below_drew1) | exact HB.out))); rintro e w23 ⟨v168, rfl, ho0, hb⟩; refine ⟨_, rfl, ?_⟩; have n0_ := Aside0.mk (Kd.R_lower ho0 (below_size (by repeat (first | (with_reducible first | exact HB.out | apply below_alloc | apply pw_below_drewN | apply below_drew1) | exact HB.out)))); have n1_ := Aside0.mk (below_step (by repeat (first | (with_reducible first | exact HB.out | apply below_alloc | apply pw_below_drewN | apply below_drew1) | exact HB.out)) hb); clear HB; have HO169 := n0_; have HB := n1_; clear n0_ n1_; (try clear hb); (try clear hb2); (try clear hk); (try clear hi); (try clear ho0)) | ((with_reducible refine gate_callee (f := 30) rfl ?_); refine goesL_ (some 23) rfl rfl Tryd.func30 (by kernel_rfl) rfl #[.string a0] rfl (by (try simp only [List.map_toArray, List.map_cons, List.map_nil]); first | done | rfl | (simp only [List.length_drop, List.length_take]; rfl)) ?_; (with_reducible refine (errataref17_Lex.calls a0 t170 t171 t172 _ A6.out).mono ?_); rintro e w24 ⟨v173, rfl, ho0, hb⟩; refine ⟨_, rfl, ?_⟩; have n0_ := Aside0.mk (Kd.R_elder' (by (with_reducible repeat (first | apply Kd.R_alloc | apply Kd.R_drewN | apply Kd.R_drew)); exact HO169.out) (Kd.R_base ho0) hb); have n1_ := Aside0.mk (Kd.R_lower (Kd.R_new' ho0 (Kd.R_lt (by (with_reducible repeat (first | apply Kd.R_alloc | apply Kd.R_drewN | apply Kd.R_drew)); exact HO169.out))) (below_size (by repeat (first | (with_reducible first | exact HB.out | apply below_alloc | apply pw_below_drewN | apply below_drew1) | exact HB.out)))); have n2_ := Aside0.mk (below_step (by repeat (first | (with_reducible first | exact HB.out | apply below_alloc | apply pw_below_drewN | apply below_drew1) | exact HB.out)) hb); clear HO169; clear HB; have HO169 := n0_; have HO174 := n1_; have HB := n2_; clear n0_ n1_ n2_; (try clear hb); (try clear hb2); (try clear hk); (try clear hi); (try clear ho0); obtain ⟨Ao25, co25, eo25⟩ := Kd.R_slice HO169.out; subst eo25; obtain ⟨Ao26, co26, eo26⟩ := Kd.R_slice HO174.out; subst eo26) | (go_at_call 28; (with_reducible refine (errataref17_Same.calls _ _ t165 _ _ t170 0 false _ ?side1 ?side2 ?side3 ?side4 A10.out).mono ?_); (case side1 => repeat (first | exact (Kd.R_reads' HO169.out).2.2 | (with_reducible refine Kd.C_alloc ?_ _) | (with_reducible refine Kd.C_drewN ?_ _) | (with_reducible refine Kd.C_drew ?_))); (case side2 => exact (Kd.R_reads' HO169.out).2.1); (case side3 => repeat (first | exact (Kd.R_reads' HO174.out).2.2 | (with_reducible refine Kd.C_alloc ?_ _) | (with_reducible refine Kd.C_drewN ?_ _) | (with_reducible refine Kd.C_drew ?_))); (case side4 => exact (Kd.R_reads' HO174.out).2.1); rintro e w27 ⟨rfl, hb⟩; have n0_ := Aside0.mk (Kd.R_below (by (with_reducible repeat (first | apply Kd.R_alloc | apply Kd.R_drewN | apply Kd.R_drew)); exact HO169.out) hb); have n1_ := Aside0.mk (Kd.R_below (by (with_reducible repeat (first | apply Kd.R_alloc | apply Kd.R_drewN | apply Kd.R_drew)); exact HO174.out) hb); have n2_ := Aside0.mk (below_step (by repeat (first | (with_reducible first | exact HB.out | apply below_alloc | apply pw_below_drewN | apply below_drew1) | exact HB.out)) hb); clear HO169; clear HO174; clear HB; have HO169 := n0_; have HO174 := n1_; have HB := n2_; clear n0_ n1_ n2_; (try clear hb); (try clear hb2); (try clear hk); (try clear hi)))
            go_ret
            exact ⟨by first | rfl | (simp [errW_none, errW_some] <;> rfl) | (simp [*, errW_none, errW_some] <;> rfl), by repeat (first | (with_reducible first | exact HB.out | apply below_alloc | apply pw_below_drewN | apply below_drew1) | exact HB.out)⟩
        · rw [if_neg c9] at H
          have c9b0 : (t167 == t172) = false := beq_eq_false_iff_ne.mpr c9
          have c9b1 : (t167 != t172) = true := bne_iff_ne.mpr c9
          obtain rfl := Option.some.inj H
          go_enter Tryd.func10, Tryd.ntmps10
          go_wp2_with (first | ((with_reducible refine gate_callee (f := 26) rfl ?_); refine goesL_ (some 10) rfl rfl Tryd.func26 (by kernel_rfl) rfl #[] rfl (by (try simp only [List.map_toArray, List.map_cons, List.map_nil]); first | done | rfl | (simp only [List.length_drop, List.length_take]; rfl)) ?_; (with_reducible refine (erratalaw17_small.calls k  true _ ?side1 A2.out).mono ?_); (case side1 => exact envB HE.out (by repeat (first | (with_reducible first | exact HB.out | apply below_alloc | apply pw_below_drewN | apply below_drew1) | exact HB.out))); rintro e w28 ⟨rfl, hb⟩; refine ⟨_, rfl, ?_⟩; have n0_ := Aside0.mk (below_step (by repeat (first | (with_reducible first | exact HB.out | apply below_alloc | apply pw_below_drewN | apply below_drew1) | exact HB.out)) hb); clear HB; have HB := n0_; clear n0_; (try clear hb); (try clear hb2); (try clear hk); (try clear hi)) | ((with_reducible refine gate_callee (f := 27) rfl ?_); refine goesL_ (some 17) rfl rfl Tryd.func27 (by kernel_rfl) rfl #[.string a0] rfl (by (try simp only [List.map_toArray, List.map_cons, List.map_nil]); first | done | rfl | (simp only [List.length_drop, List.length_take]; rfl)) ?_; (with_reducible refine (lex_Lex.calls a0 t165 t166 t167 _ ?side1 A5.out).mono ?_); (case side1 => exact envB HE.out (by repeat (first | (with_reducible first | exact HB.out | apply below_alloc | apply pw_below_drewN | apply below_drew1) | exact HB.out))); rintro e w29 ⟨v168, rfl, ho0, hb⟩; refine ⟨_, rfl, ?_⟩; have n0_ := Aside0.mk (Kd.R_lower ho0 (below_size (by repeat (first | (with_reducible first | exact HB.out | apply below_alloc | apply pw_below_drewN | apply below_drew1) | exact HB.out)))); have n1_ := Aside0.mk (below_step (by repeat (first | (with_reducible first | exact HB.out | apply below_alloc | apply pw_below_drewN | apply below_drew1) | exact HB.out)) hb); clear HB; have HO169 := n0_; have HB := n1_; clear n0_ n1_; (try clear hb); (try clear hb2); (try clear hk); (try clear hi); (try clear ho0)) | ((with_reducible refine gate_callee (f := 30) rfl ?_); refine goesL_ (some 23) rfl rfl Tryd.func30 (by kernel_rfl) rfl #[.string a0] rfl (by (try simp only [List.map_toArray, List.map_cons, List.map_nil]); first | done | rfl | (simp only [List.length_drop, List.length_take]; rfl)) ?_; (with_reducible refine (errataref17_Lex.calls a0 t170 t171 t172 _ A6.out).mono ?_); rintro e w30 ⟨v173, rfl, ho0, hb⟩; refine ⟨_, rfl, ?_⟩; have n0_ := Aside0.mk (Kd.R_elder' (by (with_reducible repeat (first | apply Kd.R_alloc | apply Kd.R_drewN | apply Kd.R_drew)); exact HO169.out) (Kd.R_base ho0) hb); have n1_ := Aside0.mk (Kd.R_lower (Kd.R_new' ho0 (Kd.R_lt (by (with_reducible repeat (first | apply Kd.R_alloc | apply Kd.R_drewN | apply Kd.R_drew)); exact HO169.out))) (below_size (by repeat (first | (with_reducible first | exact HB.out | apply below_alloc | apply pw_below_drewN | apply below_drew1) | exact HB.out)))); have n2_ := Aside0.mk (below_step (by repeat (first | (with_reducible first | exact HB.out | apply below_alloc | apply pw_below_drewN | apply below_drew1) | exact HB.out)) hb); clear HO169; clear HB; have HO169 := n0_; have HO174 := n1_; have HB := n2_; clear n0_ n1_ n2_; (try clear hb); (try clear hb2); (try clear hk); (try clear hi); (try clear ho0)))
          go_ret
          exact ⟨by first | rfl | (simp [errW_none, errW_some] <;> rfl) | (simp [*, errW_none, errW_some] <;> rfl), by repeat (first | (with_reducible first | exact HB.out | apply below_alloc | apply pw_below_drewN | apply below_drew1) | exact HB.out)⟩
      · rw [if_neg c8] at H
        have c8b0 : (t166 == t171) = false := beq_eq_false_iff_ne.mpr c8
        have c8b1 : (t166 != t171) = true := bne_iff_ne.mpr c8
        obtain rfl := Option.some.inj H
        go_enter Tryd.func10, Tryd.ntmps10
        go_wp2_with (first | ((with_reducible refine gate_callee (f := 26) rfl ?_); refine goesL_ (some 10) rfl rfl Tryd.func26 (by kernel_rfl) rfl #[] rfl (by (try simp only [List.map_toArray, List.map_cons, List.map_nil]); first | done | rfl | (simp only [List.length_drop, List.length_take]; rfl)) ?_; (with_reducible refine (erratalaw17_small.calls k  true _ ?side1 A2.out).mono ?_); (case side1 => exact envB HE.out (by repeat (first | (with_reducible first | exact HB.out | apply below_alloc | apply pw_below_drewN | apply below_drew1) | exact HB.out))); rintro e w31 ⟨rfl, hb⟩; refine ⟨_, rfl, ?_⟩; have n0_ := Aside0.mk (below_step (by repeat (first | (with_reducible first | exact HB.out | apply below_alloc | apply pw_below_drewN | apply below_drew1) | exact HB.out)) hb); clear HB; have HB := n0_; clear n0_; (try clear hb); (try clear hb2); (try clear hk); (try clear hi)) | ((with_reducible refine gate_callee (f := 27) rfl ?_); refine goesL_ (some 17) rfl rfl Tryd.func27 (by kernel_rfl) rfl #[.string a0] rfl (by (try simp only [List.map_toArray, List.map_cons, List.map_nil]); first | done | rfl | (simp only [List.length_drop, List.length_take]; rfl)) ?_; (with_reducible refine (lex_Lex.calls a0 t165 t166 t167 _ ?side1 A5.out).mono ?_); (case side1 => exact envB HE.out (by repeat (first | (with_reducible first | exact HB.out | apply below_alloc | apply pw_below_drewN | apply below_drew1) | exact HB.out))); rintro e w32 ⟨v168, rfl, ho0, hb⟩; refine ⟨_, rfl, ?_⟩; have n0_ := Aside0.mk (Kd.R_lower ho0 (below_size (by repeat (first | (with_reducible first | exact HB.out | apply below_alloc | apply pw_below_drewN | apply below_drew1) | exact HB.out)))); have n1_ := Aside0.mk (below_step (by repeat (first | (with_reducible first | exact HB.out | apply below_alloc | apply pw_below_drewN | apply below_drew1) | exact HB.out)) hb); clear HB; have HO169 := n0_; have HB := n1_; clear n0_ n1_; (try clear hb); (try clear hb2); (try clear hk); (try clear hi); (try clear ho0)) | ((with_reducible refine gate_callee (f := 30) rfl ?_); refine goesL_ (some 23) rfl rfl Tryd.func30 (by kernel_rfl) rfl #[.string a0] rfl (by (try simp only [List.map_toArray, List.map_cons, List.map_nil]); first | done | rfl | (simp only [List.length_drop, List.length_take]; rfl)) ?_; (with_reducible refine (errataref17_Lex.calls a0 t170 t171 t172 _ A6.out).mono ?_); rintro e w33 ⟨v173, rfl, ho0, hb⟩; refine ⟨_, rfl, ?_⟩; have n0_ := Aside0.mk (Kd.R_elder' (by (with_reducible repeat (first | apply Kd.R_alloc | apply Kd.R_drewN | apply Kd.R_drew)); exact HO169.out) (Kd.R_base ho0) hb); have n1_ := Aside0.mk (Kd.R_lower (Kd.R_new' ho0 (Kd.R_lt (by (with_reducible repeat (first | apply Kd.R_alloc | apply Kd.R_drewN | apply Kd.R_drew)); exact HO169.out))) (below_size (by repeat (first | (with_reducible first | exact HB.out | apply below_alloc | apply pw_below_drewN | apply below_drew1) | exact HB.out)))); have n2_ := Aside0.mk (below_step (by repeat (first | (with_reducible first | exact HB.out | apply below_alloc | apply pw_below_drewN | apply below_drew1) | exact HB.out)) hb); clear HO169; clear HB; have HO169 := n0_; have HO174 := n1_; have HB := n2_; clear n0_ n1_ n2_; (try clear hb); (try clear hb2); (try clear hk); (try clear hi); (try clear ho0)))
        go_ret
        exact ⟨by first | rfl | (simp [errW_none, errW_some] <;> rfl) | (simp [*, errW_none, errW_some] <;> rfl), by repeat (first | (with_reducible first | exact HB.out | apply below_alloc | apply pw_below_drewN | apply below_drew1) | exact HB.out)⟩
    · replace c7 := Bool.eq_false_iff.mpr c7
      subst c7
      have H1 : (some false) = some r := by rw [if_neg (show ¬ (false = true) by decide)] at H; exact H
      clear H
      have H := H1
      clear H1
      obtain rfl := Option.some.inj H
      go_enter Tryd.func10, Tryd.ntmps10
      go_wp2_with (first | ((with_reducible refine gate_callee (f := 26) rfl ?_); refine goesL_ (some 10) rfl rfl Tryd.func26 (by kernel_rfl) rfl #[] rfl (by (try simp only [List.map_toArray, List.map_cons, List.map_nil]); first | done | rfl | (simp only [List.length_drop, List.length_take]; rfl)) ?_; (with_reducible refine (erratalaw17_small.calls k  false _ ?side1 A2.out).mono ?_); (case side1 => exact envB HE.out (by repeat (first | (with_reducible first | exact HB.out | apply below_alloc | apply pw_below_drewN | apply below_drew1) | exact HB.out))); rintro e w34 ⟨rfl, hb⟩; refine ⟨_, rfl, ?_⟩; have n0_ := Aside0.mk (below_step (by repeat (first | (with_reducible first | exact HB.out | apply below_alloc | apply pw_below_drewN | apply below_drew1) | exact HB.out)) hb); clear HB; have HB := n0_; clear n0_; (try clear hb); (try clear hb2); (try clear hk); (try clear hi)) | ((with_reducible refine gate_callee (f := 27) rfl ?_); refine goesL_ (some 17) rfl rfl Tryd.func27 (by kernel_rfl) rfl #[.string a0] rfl (by (try simp only [List.map_toArray, List.map_cons, List.map_nil]); first | done | rfl | (simp only [List.length_drop, List.length_take]; rfl)) ?_; (with_reducible refine (lex_Lex.calls a0 t165 t166 t167 _ ?side1 A5.out).mono ?_); (case side1 => exact envB HE.out (by repeat (first | (with_reducible first | exact HB.out | apply below_alloc | apply pw_below_drewN | apply below_drew1) | exact HB.out))); rintro e w35 ⟨v168, rfl, ho0, hb⟩; refine ⟨_, rfl, ?_⟩; have n0_ := Aside0.mk (Kd.R_lower ho0 (below_size (by repeat (first | (with_reducible first | exact HB.out | apply below_alloc | apply pw_below_drewN | apply below_drew1) | exact HB.out)))); have n1_ := Aside0.mk (below_step (by repeat (first | (with_reducible first | exact HB.out | apply below_alloc | apply pw_below_drewN | apply below_drew1) | exact HB.out)) hb); clear HB; have HO169 := n0_; have HB := n1_; clear n0_ n1_; (try clear hb); (try clear hb2); (try clear hk); (try clear hi); (try clear ho0)) | ((with_reducible refine gate_callee (f := 30) rfl ?_); refine goesL_ (some 23) rfl rfl Tryd.func30 (by kernel_rfl) rfl #[.string a0] rfl (by (try simp only [List.map_toArray, List.map_cons, List.map_nil]); first | done | rfl | (simp only [List.length_drop, List.length_take]; rfl)) ?_; (with_reducible refine (errataref17_Lex.calls a0 t170 t171 t172 _ A6.out).mono ?_); rintro e w36 ⟨v173, rfl, ho0, hb⟩; refine ⟨_, rfl, ?_⟩; have n0_ := Aside0.mk (Kd.R_elder' (by (with_reducible repeat (first | apply Kd.R_alloc | apply Kd.R_drewN | apply Kd.R_drew)); exact HO169.out) (Kd.R_base ho0) hb); have n1_ := Aside0.mk (Kd.R_lower (Kd.R_new' ho0 (Kd.R_lt (by (with_reducible repeat (first | apply Kd.R_alloc | apply Kd.R_drewN | apply Kd.R_drew)); exact HO169.out))) (below_size (by repeat (first | (with_reducible first | exact HB.out | apply below_alloc | apply pw_below_drewN | apply below_drew1) | exact HB.out)))); have n2_ := Aside0.mk (below_step (by repeat (first | (with_reducible first | exact HB.out | apply below_alloc | apply pw_below_drewN | apply below_drew1) | exact HB.out)) hb); clear HO169; clear HB; have HO169 := n0_; have HO174 := n1_; have HB := n2_; clear n0_ n1_ n2_; (try clear hb); (try clear hb2); (try clear hk); (try clear hi); (try clear ho0)))
      go_ret
      exact ⟨by first | rfl | (simp [errW_none, errW_some] <;> rfl) | (simp [*, errW_none, errW_some] <;> rfl), by repeat (first | (with_reducible first | exact HB.out | apply below_alloc | apply pw_below_drewN | apply below_drew1) | exact HB.out)⟩

end Go.Proofs.YtfefbnfmngdicaaDoor.PX

/- LexTells: the printed law comes to true. -/
namespace Go.Proofs.YtfefbnfmngdicaaDoor.PX
set_option linter.unusedVariables false
set_option linter.unusedSimpArgs false
open Go.RowKit Go.Proofs.YtfefbnfmngdicaaDoorW.PrintWords

theorem refWrite (us : List S43) (hn : us.length ≤ 1000000) (hz : ∀ t ∈ us, t.f1.size ≤ 10000) : ∀ (j i k : Nat) (acc : List UInt8), us.length - i ≤ j → 2 * j + 30000 ≤ k → i ≤ us.length → (acc ++ wrL (us.drop i)).length ≤ 1000000000000 →
    errataref17_Write.l0 k us (bs acc) (i : Int) = some (bs (acc ++ wrL (us.drop i))) := by
  intro j
  induction j with
  | zero =>
    intro i k acc hj hk hi hl
    obtain ⟨k, rfl⟩ : ∃ m, k = m + 1 := ⟨k - 1, by omega⟩
    simp only [errataref17_Write.l0]
    rw [if_neg (by omega), List.drop_of_length_le (by omega)]
    show _ = some (bs (acc ++ []))
    rw [List.append_nil]
  | succ j ih =>
    intro i k acc hj hk hi hl
    by_cases h : i < us.length
    · obtain ⟨k, rfl⟩ : ∃ m, k = m + 2 := ⟨k - 2, by omega⟩
      have hd : us.drop i = us[i] :: us.drop (i + 1) := List.drop_eq_getElem_cons h
      have hu := hz us[i] (List.getElem_mem _)
      have hw : wrL (us.drop i) = wrT us[i] ++ wrL (us.drop (i + 1)) := by rw [hd]; rfl
      rw [hw] at hl ⊢
      rw [List.length_append, List.length_append] at hl
      have step : ∀ q, wrT us[i] = q → errataref17_Write.l0 k us (bs (acc ++ q)) ((i + 1 : Nat) : Int) = some (bs (acc ++ (wrT us[i] ++ wrL (us.drop (i + 1))))) := fun q hq => by
        rw [ih (i + 1) k (acc ++ q) (by omega) (by omega) (by omega) (by rw [List.length_append, List.length_append, ← hq]; omega), ← hq, List.append_assoc]
      have fin : ∀ b : Bool, (b = true ↔ (us[i].f0 = 0 ∨ us[i].f0 = 1 ∨ us[i].f0 = 3)) → errataref17_Write.j1 (k + 1) us (bs acc) (i : Int) us[i].f0 b = some (bs (acc ++ (wrT us[i] ++ wrL (us.drop (i + 1))))) := by
        intro b hb
        simp only [errataref17_Write.j1]
        rw [rd_43 us i h]
        cases b with
        | true =>
          have hq : wrT us[i] = us[i].f1.data.toList ++ [32] := if_pos (hb.1 rfl)
          have hql := congrArg List.length hq
          rw [List.length_append, sz_toList, List.length_singleton] at hql
          rw [if_pos rfl, if_pos (by omega), if_pos (by omega), if_pos (by rw [bs_sz]; omega), if_pos (by rw [ByteArray.size_append, bs_sz]; omega), wrn i (by omega), ← step _ hq]
          congr 1
          rw [← bs_eq us[i].f1, bs_app, show (⟨#[32]⟩ : ByteArray) = bs [32] from rfl, bs_app, List.append_assoc]
          rfl
        | false =>
          have hnn : ¬ (us[i].f0 = 0 ∨ us[i].f0 = 1 ∨ us[i].f0 = 3) := fun e => by cases hb.2 e
          rw [if_neg (by decide)]
          by_cases h2 : us[i].f0 = 2
          · have hq : wrT us[i] = quo us[i].f1.data.toList ++ [32] := by unfold wrT; rw [if_neg hnn, if_pos h2]
            have hql := congrArg List.length hq
            rw [List.length_append, List.length_singleton] at hql
            rw [if_pos h2, if_pos (by omega), if_pos (by omega), refQuote us[i].f1 (by omega) k (by omega), Option.bind_some, if_pos (by rw [bs_sz, bs_sz]; omega), if_pos (by rw [ByteArray.size_append, bs_sz, bs_sz]; omega), wrn i (by omega), ← step _ hq]
            congr 1
            rw [bs_app, show (⟨#[32]⟩ : ByteArray) = bs [32] from rfl, bs_app, List.append_assoc]
          · rw [if_neg h2]
            by_cases h4 : us[i].f0 = 4
            · have hq : wrT us[i] = [10] := by unfold wrT; rw [if_neg hnn, if_neg h2, if_pos h4]
              have hql := congrArg List.length hq
              rw [List.length_singleton] at hql
              rw [if_pos h4, if_pos (by rw [bs_sz]; omega), wrn i (by omega), ← step _ hq]
              congr 1
              all_goals (rw [show (⟨#[10]⟩ : ByteArray) = bs [10] from rfl, bs_app])
            · have hq : wrT us[i] = [] := by unfold wrT; rw [if_neg hnn, if_neg h2, if_neg h4]
              rw [if_neg h4, wrn i (by omega), ← step _ hq, List.append_nil]
      simp only [errataref17_Write.l0]
      rw [if_pos (by omega), if_pos (by omega), rd_43 us i h]
      by_cases h0 : us[i].f0 = 0
      · rw [if_pos h0]
        exact fin _ (by rw [beq_iff_eq]; exact ⟨.inl, fun _ => h0⟩)
      · rw [if_neg h0]
        by_cases h1 : us[i].f0 = 1
        · rw [if_pos h1]
          exact fin _ (by rw [beq_iff_eq]; exact ⟨fun e => .inr (.inl e), fun _ => h1⟩)
        · rw [if_neg h1]
          exact fin _ (by rw [beq_iff_eq]; exact ⟨fun e => .inr (.inr e), fun e => by rcases e with e | e | e; exact absurd e h0; exact absurd e h1; exact e⟩)
    · exact ih i k acc (by omega) (by omega) hi hl
theorem refWrite_f (us : List S43) (hn : us.length ≤ 1000000) (hz : ∀ t ∈ us, t.f1.size ≤ 10000) (hl : (wrL us).length ≤ 1000000000000) (k : Nat) (hk : 2 * us.length + 30000 ≤ k) : errataref17_Write.f k us = some (bs (wrL us)) := by
  unfold errataref17_Write.f
  exact refWrite us hn hz us.length 0 k [] (by omega) (by omega) (by omega) hl
theorem good_texts : ∀ (vs : List S43) (ln : Int), Good ln vs → ∀ t ∈ vs, t.f1.size ≤ 10000
  | [], _, hg => hg.elim
  | v :: vs, ln, hg => by
    intro t ht
    rcases hg with ⟨rfl, rfl⟩ | ⟨_, _, hok, hg⟩
    · rw [List.mem_singleton.1 ht]; show (0 : Nat) ≤ _; omega
    · rcases List.mem_cons.1 ht with rfl | ht
      · rcases hok with ⟨_, _, hn⟩ | ⟨_, n, hn, _, hl⟩ | ⟨_, _, hs⟩ | ⟨_, _, ho⟩ | ⟨_, _, hl⟩
        · have := (wd_name _ hn).2.2.2; rw [sz_toList] at this; omega
        · have h2 := Lib.itoa_length_le n (by omega) (by omega)
          rw [Lib.itoa_nonneg, ← hl, sz_toList] at h2
          omega
        · omega
        · have := opl_len2 _ ho; rw [sz_toList] at this; omega
        · have := congrArg List.length hl; rw [sz_toList, List.length_nil] at this; omega
      · exact good_texts vs _ hg t ht
theorem LexTells_ex (a : ByteArray) {p : Prop} (_ : p) : ∃ k, erratalaw17_LexTells.f k a = some true := by
  refine ⟨100000, ?_⟩
  unfold erratalaw17_LexTells.f
  rw [small17 99998]
  simp only [Option.bind_some]
  by_cases ha : (a.size : Int) > 9000
  · rw [if_pos ha]
  · rw [if_neg ha]
    have core : ∀ (us : List S43) (e n : Int), lex_Lex.f a = some (us, e, n) → errataref17_Lex.f a = some (us, e, n) → us.length ≤ 9000 → (∀ u ∈ us, 0 ≤ u.f3 ∧ u.f3 ≤ 1000000) → (∀ t ∈ us, t.f1.size ≤ 10000) → (wrL us).length ≤ 20000 →
        ((lex_Lex.f a).bind fun bt230 => ((errataref17_Lex.f a).bind fun bt235 => (if true = true then (if bt230.2.1 = bt235.2.1 then (if bt230.2.2 = bt235.2.2 then ((errataref17_Same.f bt230.1 bt235.1 0).bind fun t240 => (if t240 = true then ((lex_Write.f bt230.1).bind fun t241 => ((errataref17_Write.f 100000 bt235.1).bind fun t242 => (some (t241.toList == t242.toList)))) else (some false))) else (some false)) else (some false)) else (some false)))) = some true := by
      intro us e n h1 h2 hl hb hz hw
      have hwr : lex_Write.f us = some ⟨(wrL us).toArray⟩ := if_pos ⟨by omega, by omega, fun t ht => by have := hz t ht; omega⟩
      rw [h1, h2]
      simp only [Option.bind_some]
      rw [if_pos trivial, if_pos trivial, if_pos trivial, same_eq us (by omega) hb]
      simp only [Option.bind_some]
      rw [if_pos trivial, hwr, refWrite_f us (by omega) hz (by omega) 100000 (by omega)]
      simp only [Option.bind_some]
      exact congrArg some (beq_self_eq_true _)
    by_cases h8 : a.size ≤ 8000
    · have hla : a.data.toList.length ≤ 8000 := by rw [sz_toList]; exact h8
      have hr : errataref17_Lex.f a = lex_Lex.f a := rfl
      rcases ea : lexN a.data.toList 1 0 with ⟨e, n⟩ | us
      · have h1 := lexF_err a _ rfl h8 e n ea
        exact core [] e n h1 (hr.trans h1) (by show 0 ≤ _; omega) (fun u hu => by cases hu) (fun u hu => by cases hu) (by show 0 ≤ _; omega)
      · have hcount := lexN_count (a.data.toList.length + 1) _ _ _ us (by omega) ea
        have hlines := lexN_lines (a.data.toList.length + 1) _ _ _ us (by omega) ea
        obtain ⟨hg, hwl⟩ := lexN_good (a.data.toList.length + 1) _ _ _ us (by omega) ea
        have h1 := lexF_ok a _ rfl h8 us ea
        exact core us 0 0 h1 (hr.trans h1) (by omega) (fun u hu => by have := hlines u hu; omega) (good_texts us 1 hg) (by omega)
    · have h1 : lex_Lex.f a = some ([], 6, 0) := by unfold lex_Lex.f; rw [if_pos (by omega), if_neg h8]
      have h2 : errataref17_Lex.f a = some ([], 6, 0) := by unfold errataref17_Lex.f; rw [if_pos (by omega), if_neg h8]
      exact core [] 6 0 h1 h2 (by show 0 ≤ _; omega) (fun u hu => by cases hu) (fun u hu => by cases hu) (by show 0 ≤ _; omega)
end Go.Proofs.YtfefbnfmngdicaaDoor.PX
