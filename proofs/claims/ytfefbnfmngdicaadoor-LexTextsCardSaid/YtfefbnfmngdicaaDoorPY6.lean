-- Written by a program of this session (wip/tools): the kit's printer, turned to take contracts that were proved by hand.
import Derived.Test.YtfefbnfmngdicaaDoorPX0
import Derived.Test.YtfefbnfmngdicaaDoorPY2
import Derived.Test.YtfefbnfmngdicaaDoorPY3
import Derived.Test.YtfefbnfmngdicaaDoorE1
import Derived.Test.YtfefbnfmngdicaaDoorE3
import Derived.Test.YtfefbnfmngdicaaDoorE5
import Derived.Test.YtfefbnfmngdicaaDoorE6
import Derived.Test.YtfefbnfmngdicaaDoorEnv
namespace Go.Proofs.YtfefbnfmngdicaaDoor.PX
open Go.RowKit Go.Proofs.YtfefbnfmngdicaaDoorW.PrintWords Go.Proofs.YtfefbnfmngdicaaDoorW.PrintLast Go.Proofs.YtfefbnfmngdicaaDoorW.PrintMore
attribute [local go_sem] max2_int min2_int max_two min_two max_three min_three max_four min_four   -- for this text's walks alone
set_option linter.unusedVariables false
set_option linter.unusedSimpArgs false

attribute [local go_sem high] eqA43
/-! ### erratalaw17_LexTexts: function 9 -/
mutual
def erratalaw17_LexTexts.j0 : Nat → ByteArray → Int → Bool → Option (Bool)
  | 0, _, _, _ => none
  | k + 1, x0, x1, x5 => (shape_Name.f x0).bind fun t180 => (if t180 = true then ((lex_Lex.f x0).bind fun bt181 => (if bt181.2.1 = 0 then (if (bt181.1.length : Int) = 2 then (if 0 < (bt181.1.length : Int) then (if (!(((rd_T43 bt181.1 0).f0) == 0) || (!((((rd_T43 bt181.1 0).f1).toList) == x0.toList) || (!(((rd_T43 bt181.1 0).f2) == 0) || (!(((rd_T43 bt181.1 0).f3) == 1))))) = true then (some false) else (erratalaw17_LexTexts.j1 k x1 x5)) else (none)) else (some false)) else (some false))) else (erratalaw17_LexTexts.j1 k x1 x5))
def erratalaw17_LexTexts.j1 : Nat → Int → Bool → Option (Bool)
  | 0, _, _ => none
  | k + 1, x1, x5 => (text_Decimal.f x1).bind fun t187 => ((lex_Lex.f t187).bind fun bt188 => (if x1 < 0 then (if x5 = true then (if x1 = (-9223372036854775808) then (some true) else (if bt188.2.1 = 0 then (if (bt188.1.length : Int) = 3 then (if 0 < (bt188.1.length : Int) then (if ((rd_T43 bt188.1 0).f1).toList = ([45] : List UInt8) then (if 1 < (bt188.1.length : Int) then (some (((rd_T43 bt188.1 1).f2) == (wrap64 (-x1)))) else (none)) else (some false)) else (none)) else (some false)) else (some false))) else (some false)) else (if x5 = true then (if bt188.2.1 = 0 then (if (bt188.1.length : Int) = 2 then (if 0 < (bt188.1.length : Int) then (if ((rd_T43 bt188.1 0).f0) = 1 then (some (((rd_T43 bt188.1 0).f2) == x1)) else (some false)) else (none)) else (some false)) else (some false)) else (some false))))
end
def erratalaw17_LexTexts.f (k : Nat) (a0 : ByteArray) (a1 : Int) : Option (Bool) := (erratalaw17_small.f k).bind fun t172 => (if (a0.size : Int) > 300 then (some t172) else ((text_Quote.f a0).bind fun t173 => ((lex_Lex.f t173).bind fun bt174 => (if (a0.size : Int) > 200 then (if bt174.2.1 = 11 then (if bt174.2.2 = 1 then (erratalaw17_LexTexts.j0 k a0 a1 t172) else (some false)) else (some false)) else (if bt174.2.1 = 0 then (if (bt174.1.length : Int) = 2 then (if 0 < (bt174.1.length : Int) then (if (!(((rd_T43 bt174.1 0).f0) == 2) || (!((((rd_T43 bt174.1 0).f1).toList) == a0.toList) || (!(((rd_T43 bt174.1 0).f2) == 0) || (!(((rd_T43 bt174.1 0).f3) == 1))))) = true then (some false) else (erratalaw17_LexTexts.j0 k a0 a1 t172)) else (none)) else (some false)) else (some false))))))
theorem erratalaw17_LexTexts.mono_l : ∀ k, (∀ y0 y1 y2, LeO (erratalaw17_LexTexts.j0 k y0 y1 y2) (erratalaw17_LexTexts.j0 (k + 1) y0 y1 y2)) ∧ (∀ y0 y1, LeO (erratalaw17_LexTexts.j1 k y0 y1) (erratalaw17_LexTexts.j1 (k + 1) y0 y1))
  | 0 => ⟨fun _ _ _ r h => by simp [erratalaw17_LexTexts.j0] at h, fun _ _ r h => by simp [erratalaw17_LexTexts.j1] at h⟩
  | k + 1 => by
    obtain ⟨ih0, ih1⟩ := erratalaw17_LexTexts.mono_l k
    refine ⟨?_, ?_⟩
    · intro y0 y1 y2
      unfold erratalaw17_LexTexts.j0
      repeat' first
      | (with_reducible exact ih0 _ _ _)
      | (with_reducible exact ih1 _ _)
      | (with_reducible exact erratalaw17_small.mono _)
      | (with_reducible exact LeO.refl _)
      | (with_reducible exact LeO.none _)
      | (with_reducible refine LeO.ite ?_ ?_)
      | (with_reducible refine LeO.bind ?_ (fun _ => ?_))
      | exact ih0 _ _ _
      | exact ih1 _ _
      | exact erratalaw17_small.mono _
      | exact LeO.none _
      | refine LeO.ite ?_ ?_
      | refine LeO.bind ?_ (fun _ => ?_)
    · intro y0 y1
      unfold erratalaw17_LexTexts.j1
      repeat' first
      | (with_reducible exact ih0 _ _ _)
      | (with_reducible exact ih1 _ _)
      | (with_reducible exact erratalaw17_small.mono _)
      | (with_reducible exact LeO.refl _)
      | (with_reducible exact LeO.none _)
      | (with_reducible refine LeO.ite ?_ ?_)
      | (with_reducible refine LeO.bind ?_ (fun _ => ?_))
      | exact ih0 _ _ _
      | exact ih1 _ _
      | exact erratalaw17_small.mono _
      | exact LeO.none _
      | refine LeO.ite ?_ ?_
      | refine LeO.bind ?_ (fun _ => ?_)
theorem erratalaw17_LexTexts.mono : ∀ a0 a1 k, LeO (erratalaw17_LexTexts.f k a0 a1) (erratalaw17_LexTexts.f (k + 1) a0 a1) := by
  intro a0 a1 k
  obtain ⟨ih0, ih1⟩ := erratalaw17_LexTexts.mono_l k
  unfold erratalaw17_LexTexts.f
  repeat' first
      | (with_reducible exact ih0 _ _ _)
      | (with_reducible exact ih1 _ _)
      | (with_reducible exact erratalaw17_small.mono _)
      | (with_reducible exact LeO.refl _)
      | (with_reducible exact LeO.none _)
      | (with_reducible refine LeO.ite ?_ ?_)
      | (with_reducible refine LeO.bind ?_ (fun _ => ?_))
      | exact ih0 _ _ _
      | exact ih1 _ _
      | exact erratalaw17_small.mono _
      | exact LeO.none _
      | refine LeO.ite ?_ ?_
      | refine LeO.bind ?_ (fun _ => ?_)
set_option maxHeartbeats 8000000 in
set_option maxRecDepth 100000 in
theorem erratalaw17_LexTexts.calls (k : Nat) (a0 : ByteArray) (a1 : Int) (r : Bool) (w : World) (hE : Env w) (h : erratalaw17_LexTexts.f k a0 a1 = some r) :
    Calls Tryd.prog 9 #[.string a0, .int .i64 a1] w fun e w' => e = .returned (.bool r) ∧ Below w.heap.size w w' := by
  have hu43 := Tryd.underlying43
  have HB := Aside0.mk (Below.refl w.heap.size w)
  have HE := Aside0.mk hE
  clear hE
  have H : ((erratalaw17_small.f k).bind fun t172 => (if (a0.size : Int) > 300 then (some t172) else ((text_Quote.f a0).bind fun t173 => ((lex_Lex.f t173).bind fun bt174 => (if (a0.size : Int) > 200 then (if bt174.2.1 = 11 then (if bt174.2.2 = 1 then (erratalaw17_LexTexts.j0 k a0 a1 t172) else (some false)) else (some false)) else (if bt174.2.1 = 0 then (if (bt174.1.length : Int) = 2 then (if 0 < (bt174.1.length : Int) then (if (!(((rd_T43 bt174.1 0).f0) == 2) || (!((((rd_T43 bt174.1 0).f1).toList) == a0.toList) || (!(((rd_T43 bt174.1 0).f2) == 0) || (!(((rd_T43 bt174.1 0).f3) == 1))))) = true then (some false) else (erratalaw17_LexTexts.j0 k a0 a1 t172)) else (none)) else (some false)) else (some false))))))) = some r := h
  clear h
  replace H := Option.bind_eq_some_iff.mp H
  obtain ⟨t172, A30, H⟩ := H
  replace H : (if (a0.size : Int) > 300 then (some t172) else ((text_Quote.f a0).bind fun t173 => ((lex_Lex.f t173).bind fun bt174 => (if (a0.size : Int) > 200 then (if bt174.2.1 = 11 then (if bt174.2.2 = 1 then (erratalaw17_LexTexts.j0 k a0 a1 t172) else (some false)) else (some false)) else (if bt174.2.1 = 0 then (if (bt174.1.length : Int) = 2 then (if 0 < (bt174.1.length : Int) then (if (!(((rd_T43 bt174.1 0).f0) == 2) || (!((((rd_T43 bt174.1 0).f1).toList) == a0.toList) || (!(((rd_T43 bt174.1 0).f2) == 0) || (!(((rd_T43 bt174.1 0).f3) == 1))))) = true then (some false) else (erratalaw17_LexTexts.j0 k a0 a1 t172)) else (none)) else (some false)) else (some false)))))) = some r := H
  have A3 := Aside0.mk A30
  clear A30
  by_cases c4 : (a0.size : Int) > 300
  · rw [if_pos c4] at H
    have c4b0 : decide (300 < (a0.size : Int)) = true := decide_eq_true c4
    have c4b1 : decide (300 < a0.size) = true := decide_eq_true (by omega)
    clear c4
    obtain rfl := Option.some.inj H
    go_enter Tryd.func9, Tryd.ntmps9
    go_wp2_with (first | ((with_reducible refine gate_callee (f := 26) rfl ?_); refine goesL_ (some 15) rfl rfl Tryd.func26 (by kernel_rfl) rfl #[] rfl (by (try simp only [List.map_toArray, List.map_cons, List.map_nil]); first | done | rfl | (simp only [List.length_drop, List.length_take]; rfl)) ?_; (with_reducible refine (erratalaw17_small.calls k  t172 _ ?side1 A3.out).mono ?_); (case side1 => exact envB HE.out (by repeat (first | (with_reducible first | exact HB.out | apply below_alloc | apply pw_below_drewN | apply below_drew1) | exact HB.out))); rintro e w5 ⟨rfl, hb⟩; refine ⟨_, rfl, ?_⟩; have n0_ := Aside0.mk (below_step (by repeat (first | (with_reducible first | exact HB.out | apply below_alloc | apply pw_below_drewN | apply below_drew1) | exact HB.out)) hb); clear HB; have HB := n0_; clear n0_; (try clear hb); (try clear hb2); (try clear hk); (try clear hi)))
    go_ret
    exact ⟨by first | rfl | (simp [errW_none, errW_some] <;> rfl) | (simp [*, errW_none, errW_some] <;> rfl), by repeat (first | (with_reducible first | exact HB.out | apply below_alloc | apply pw_below_drewN | apply below_drew1) | exact HB.out)⟩
  · rw [if_neg c4] at H
    have c4b0 : decide (300 < (a0.size : Int)) = false := decide_eq_false c4
    have c4b1 : decide (300 < a0.size) = false := decide_eq_false (by omega)
    clear c4
    replace H := Option.bind_eq_some_iff.mp H
    obtain ⟨t173, A60, H⟩ := H
    replace H : ((lex_Lex.f t173).bind fun bt174 => (if (a0.size : Int) > 200 then (if bt174.2.1 = 11 then (if bt174.2.2 = 1 then (erratalaw17_LexTexts.j0 k a0 a1 t172) else (some false)) else (some false)) else (if bt174.2.1 = 0 then (if (bt174.1.length : Int) = 2 then (if 0 < (bt174.1.length : Int) then (if (!(((rd_T43 bt174.1 0).f0) == 2) || (!((((rd_T43 bt174.1 0).f1).toList) == a0.toList) || (!(((rd_T43 bt174.1 0).f2) == 0) || (!(((rd_T43 bt174.1 0).f3) == 1))))) = true then (some false) else (erratalaw17_LexTexts.j0 k a0 a1 t172)) else (none)) else (some false)) else (some false)))) = some r := H
    have A6 := Aside0.mk A60
    clear A60
    replace H := Option.bind_eq_some_iff.mp H
    obtain ⟨⟨t174, t175, t176⟩, A70, H⟩ := H
    replace H : (if (a0.size : Int) > 200 then (if t175 = 11 then (if t176 = 1 then (erratalaw17_LexTexts.j0 k a0 a1 t172) else (some false)) else (some false)) else (if t175 = 0 then (if (t174.length : Int) = 2 then (if 0 < (t174.length : Int) then (if (!(((rd_T43 t174 0).f0) == 2) || (!((((rd_T43 t174 0).f1).toList) == a0.toList) || (!(((rd_T43 t174 0).f2) == 0) || (!(((rd_T43 t174 0).f3) == 1))))) = true then (some false) else (erratalaw17_LexTexts.j0 k a0 a1 t172)) else (none)) else (some false)) else (some false))) = some r := H
    have A7 := Aside0.mk A70
    clear A70
    have HC8 := Aside0.mk H
    clear H
    go_enter Tryd.func9, Tryd.ntmps9
    go_upto_if 29 with (first | ((with_reducible refine gate_callee (f := 26) rfl ?_); refine goesL_ (some 15) rfl rfl Tryd.func26 (by kernel_rfl) rfl #[] rfl (by (try simp only [List.map_toArray, List.map_cons, List.map_nil]); first | done | rfl | (simp only [List.length_drop, List.length_take]; rfl)) ?_; (with_reducible refine (erratalaw17_small.calls k  t172 _ ?side1 A3.out).mono ?_); (case side1 => exact envB HE.out (by repeat (first | (with_reducible first | exact HB.out | apply below_alloc | apply pw_below_drewN | apply below_drew1) | exact HB.out))); rintro e w9 ⟨rfl, hb⟩; refine ⟨_, rfl, ?_⟩; have n0_ := Aside0.mk (below_step (by repeat (first | (with_reducible first | exact HB.out | apply below_alloc | apply pw_below_drewN | apply below_drew1) | exact HB.out)) hb); clear HB; have HB := n0_; clear n0_; (try clear hb); (try clear hb2); (try clear hk); (try clear hi)) | ((with_reducible refine gate_callee (f := 23) rfl ?_); refine goesL_ (some 22) rfl rfl Tryd.func23 (by kernel_rfl) rfl #[.string a0] rfl (by (try simp only [List.map_toArray, List.map_cons, List.map_nil]); first | done | rfl | (simp only [List.length_drop, List.length_take]; rfl)) ?_; (with_reducible refine (text_Quote.calls a0 t173 _ A6.out).mono ?_); rintro e w10 ⟨rfl, hb⟩; refine ⟨_, rfl, ?_⟩; have n0_ := Aside0.mk (below_step (by repeat (first | (with_reducible first | exact HB.out | apply below_alloc | apply pw_below_drewN | apply below_drew1) | exact HB.out)) hb); clear HB; have HB := n0_; clear n0_; (try clear hb); (try clear hb2); (try clear hk); (try clear hi)) | ((with_reducible refine gate_callee (f := 27) rfl ?_); refine goesL_ (some 23) rfl rfl Tryd.func27 (by kernel_rfl) rfl #[.string t173] rfl (by (try simp only [List.map_toArray, List.map_cons, List.map_nil]); first | done | rfl | (simp only [List.length_drop, List.length_take]; rfl)) ?_; (with_reducible refine (lex_Lex.calls t173 t174 t175 t176 _ ?side1 A7.out).mono ?_); (case side1 => exact envB HE.out (by repeat (first | (with_reducible first | exact HB.out | apply below_alloc | apply pw_below_drewN | apply below_drew1) | exact HB.out))); rintro e w11 ⟨v177, rfl, ho0, hb⟩; refine ⟨_, rfl, ?_⟩; have n0_ := Aside0.mk (Kd.R_lower ho0 (below_size (by repeat (first | (with_reducible first | exact HB.out | apply below_alloc | apply pw_below_drewN | apply below_drew1) | exact HB.out)))); have n1_ := Aside0.mk (below_step (by repeat (first | (with_reducible first | exact HB.out | apply below_alloc | apply pw_below_drewN | apply below_drew1) | exact HB.out)) hb); clear HB; have HO178 := n0_; have HB := n1_; clear n0_ n1_; (try clear hb); (try clear hb2); (try clear hk); (try clear hi); (try clear ho0)))
    (try simp only [Act.put, List.setIfInBounds_toArray, List.set_cons_zero, List.set_cons_succ])
    go_cut [] (fun wc => ∃ (kq : Nat), Aside0 (erratalaw17_LexTexts.j0 kq a0 a1 t172 = some r) ∧ Aside0 (kq ≤ k) ∧ Aside0 (Below w.heap.size w wc))
    case first =>
      have H := HC8.out
      clear HC8
      by_cases c12 : (a0.size : Int) > 200
      · rw [if_pos c12] at H
        have c12b0 : decide (200 < (a0.size : Int)) = true := decide_eq_true c12
        have c12b1 : decide (200 < a0.size) = true := decide_eq_true (by omega)
        clear c12
        (first | rw [c12b0] | (simp only [i64_w, i32_w]; rw [c12b0]) | skip)
        by_cases c13 : t175 = 11
        · rw [if_pos c13] at H
          have c13b0 : (t175 == 11) = true := beq_iff_eq.mpr c13
          have c13b1 : (t175 != 11) = false := bne_eq_false_iff_eq.mpr c13
          clear c13
          by_cases c14 : t176 = 1
          · rw [if_pos c14] at H
            have c14b0 : (t176 == 1) = true := beq_iff_eq.mpr c14
            have c14b1 : (t176 != 1) = false := bne_eq_false_iff_eq.mpr c14
            clear c14
            have H' := Aside0.mk H
            clear H
            go_wp2
            go_meet
            case rel => exact ⟨_, H', ⟨by first | omega | exact Nat.le_refl _⟩, ⟨by repeat (first | (with_reducible first | exact HB.out | apply below_alloc | apply pw_below_drewN | apply below_drew1) | exact HB.out)⟩⟩
          · rw [if_neg c14] at H
            have c14b0 : (t176 == 1) = false := beq_eq_false_iff_ne.mpr c14
            have c14b1 : (t176 != 1) = true := bne_iff_ne.mpr c14
            obtain rfl := Option.some.inj H
            go_wp2
            go_ret
            exact ⟨by first | rfl | (simp [errW_none, errW_some] <;> rfl) | (simp [*, errW_none, errW_some] <;> rfl), by repeat (first | (with_reducible first | exact HB.out | apply below_alloc | apply pw_below_drewN | apply below_drew1) | exact HB.out)⟩
        · rw [if_neg c13] at H
          have c13b0 : (t175 == 11) = false := beq_eq_false_iff_ne.mpr c13
          have c13b1 : (t175 != 11) = true := bne_iff_ne.mpr c13
          obtain rfl := Option.some.inj H
          go_wp2
          go_ret
          exact ⟨by first | rfl | (simp [errW_none, errW_some] <;> rfl) | (simp [*, errW_none, errW_some] <;> rfl), by repeat (first | (with_reducible first | exact HB.out | apply below_alloc | apply pw_below_drewN | apply below_drew1) | exact HB.out)⟩
      · rw [if_neg c12] at H
        have c12b0 : decide (200 < (a0.size : Int)) = false := decide_eq_false c12
        have c12b1 : decide (200 < a0.size) = false := decide_eq_false (by omega)
        clear c12
        (first | rw [c12b0] | (simp only [i64_w, i32_w]; rw [c12b0]) | skip)
        by_cases c15 : t175 = 0
        · rw [if_pos c15] at H
          have c15b0 : (t175 == 0) = true := beq_iff_eq.mpr c15
          have c15b1 : (t175 != 0) = false := bne_eq_false_iff_eq.mpr c15
          clear c15
          by_cases c16 : (t174.length : Int) = 2
          · rw [if_pos c16] at H
            have c16b0 : ((t174.length : Int) == 2) = true := beq_iff_eq.mpr c16
            have c16b1 : ((t174.length : Int) != 2) = false := bne_eq_false_iff_eq.mpr c16
            clear c16
            by_cases c17 : 0 < (t174.length : Int)
            · rw [if_pos c17] at H
              have c17b0 : decide (0 < (t174.length : Int)) = true := decide_eq_true c17
              have c17b1 : decide (0 < t174.length) = true := decide_eq_true (by omega)
              clear c17
              by_cases c18 : (!(((rd_T43 t174 0).f0) == 2) || (!((((rd_T43 t174 0).f1).toList) == a0.toList) || (!(((rd_T43 t174 0).f2) == 0) || (!(((rd_T43 t174 0).f3) == 1))))) = true
              · rw [if_pos c18] at H
                have c18b0 : (!(((rd_T43 t174 0).f0) == 2) || (!((((rd_T43 t174 0).f1).toList) == a0.toList) || (!(((rd_T43 t174 0).f2) == 0) || (!(((rd_T43 t174 0).f3) == 1))))) = true := c18
                clear c18
                obtain rfl := Option.some.inj H
                obtain ⟨Ao19, co19, eo19⟩ := Kd.R_slice HO178.out
                subst eo19
                have p179 : 0 ≤ (0 : Int) := (by omega)
                have q179 : 0 < (t174.length : Int) := of_decide_eq_true (by first | (with_reducible assumption) | assumption)
                obtain ⟨ad179, e179, hx179_0, hx179_1, hx179_2, hx179_3⟩ := at_T43 (Kd.R_reads' HO178.out).2.2 0 p179 q179
                cases e179
                have qi179 : (0 < t174.length) = True := eq_true (by omega)
                (try rw [show ((0 : Int)).toNat = 0 from rfl] at hx179_0)
                (try rw [show 0 * 4 = 0 from rfl] at hx179_0)
                (try rw [Addr.add_zero'] at hx179_0)
                (try rw [show ((0 : Int)).toNat = 0 from rfl] at hx179_1)
                (try rw [show 0 * 4 = 0 from rfl] at hx179_1)
                (try rw [Addr.add_zero'] at hx179_1)
                (try rw [show ((0 : Int)).toNat = 0 from rfl] at hx179_2)
                (try rw [show 0 * 4 = 0 from rfl] at hx179_2)
                (try rw [Addr.add_zero'] at hx179_2)
                (try rw [show ((0 : Int)).toNat = 0 from rfl] at hx179_3)
                (try rw [show 0 * 4 = 0 from rfl] at hx179_3)
                (try rw [Addr.add_zero'] at hx179_3)
                replace p179 := eq_true p179
                replace q179 := eq_true q179
                go_wp2
                go_ret
                exact ⟨by first | rfl | (simp [errW_none, errW_some] <;> rfl) | (simp [*, errW_none, errW_some] <;> rfl), by repeat (first | (with_reducible first | exact HB.out | apply below_alloc | apply pw_below_drewN | apply below_drew1) | exact HB.out)⟩
              · rw [if_neg c18] at H
                have c18b0 : (!(((rd_T43 t174 0).f0) == 2) || (!((((rd_T43 t174 0).f1).toList) == a0.toList) || (!(((rd_T43 t174 0).f2) == 0) || (!(((rd_T43 t174 0).f3) == 1))))) = false := by simpa using c18
                clear c18
                have H' := Aside0.mk H
                clear H
                obtain ⟨Ao20, co20, eo20⟩ := Kd.R_slice HO178.out
                subst eo20
                have p179 : 0 ≤ (0 : Int) := (by omega)
                have q179 : 0 < (t174.length : Int) := of_decide_eq_true (by first | (with_reducible assumption) | assumption)
                obtain ⟨ad179, e179, hx179_0, hx179_1, hx179_2, hx179_3⟩ := at_T43 (Kd.R_reads' HO178.out).2.2 0 p179 q179
                cases e179
                have qi179 : (0 < t174.length) = True := eq_true (by omega)
                (try rw [show ((0 : Int)).toNat = 0 from rfl] at hx179_0)
                (try rw [show 0 * 4 = 0 from rfl] at hx179_0)
                (try rw [Addr.add_zero'] at hx179_0)
                (try rw [show ((0 : Int)).toNat = 0 from rfl] at hx179_1)
                (try rw [show 0 * 4 = 0 from rfl] at hx179_1)
                (try rw [Addr.add_zero'] at hx179_1)
                (try rw [show ((0 : Int)).toNat = 0 from rfl] at hx179_2)
                (try rw [show 0 * 4 = 0 from rfl] at hx179_2)
                (try rw [Addr.add_zero'] at hx179_2)
                (try rw [show ((0 : Int)).toNat = 0 from rfl] at hx179_3)
                (try rw [show 0 * 4 = 0 from rfl] at hx179_3)
                (try rw [Addr.add_zero'] at hx179_3)
                replace p179 := eq_true p179
                replace q179 := eq_true q179
                go_wp2
                go_meet
                case rel => exact ⟨_, H', ⟨by first | omega | exact Nat.le_refl _⟩, ⟨by repeat (first | (with_reducible first | exact HB.out | apply below_alloc | apply pw_below_drewN | apply below_drew1) | exact HB.out)⟩⟩
            · rw [if_neg c17] at H
              exact absurd H (by simp)
          · rw [if_neg c16] at H
            have c16b0 : ((t174.length : Int) == 2) = false := beq_eq_false_iff_ne.mpr c16
            have c16b1 : ((t174.length : Int) != 2) = true := bne_iff_ne.mpr c16
            obtain rfl := Option.some.inj H
            obtain ⟨Ao21, co21, eo21⟩ := Kd.R_slice HO178.out
            subst eo21
            go_wp2
            go_ret
            exact ⟨by first | rfl | (simp [errW_none, errW_some] <;> rfl) | (simp [*, errW_none, errW_some] <;> rfl), by repeat (first | (with_reducible first | exact HB.out | apply below_alloc | apply pw_below_drewN | apply below_drew1) | exact HB.out)⟩
        · rw [if_neg c15] at H
          have c15b0 : (t175 == 0) = false := beq_eq_false_iff_ne.mpr c15
          have c15b1 : (t175 != 0) = true := bne_iff_ne.mpr c15
          obtain rfl := Option.some.inj H
          go_wp2
          go_ret
          exact ⟨by first | rfl | (simp [errW_none, errW_some] <;> rfl) | (simp [*, errW_none, errW_some] <;> rfl), by repeat (first | (with_reducible first | exact HB.out | apply below_alloc | apply pw_below_drewN | apply below_drew1) | exact HB.out)⟩
    case rest =>
      clear HC8
      try clear c1
      try clear p1
      try clear q1
      try clear hx1
      try clear qi1
      try clear c2
      try clear p2
      try clear c4
      try clear c4b0
      try clear c4b1
      try clear c9
      try clear c12
      try clear c12b0
      try clear c12b1
      try clear c13
      try clear c13b0
      try clear c13b1
      try clear c14
      try clear c14b0
      try clear c14b1
      try clear c15
      try clear c15b0
      try clear c15b1
      try clear c16
      try clear c16b0
      try clear c16b1
      try clear c17
      try clear c17b0
      try clear c17b1
      try clear p17
      try clear q17
      try clear hx17
      try clear qi17
      try clear c18
      try clear c18b0
      try clear hx179_0
      try clear hx179_1
      try clear hx179_2
      try clear hx179_3
      try clear p179
      try clear q179
      obtain ⟨kq, HA, HJ7, HB⟩ := hcut
      cases kq with
      | zero => exact absurd HA.out (by simp [erratalaw17_LexTexts.j0])
      | succ kj7 =>
        have H := HA.out
        clear HA
        simp only [erratalaw17_LexTexts.j0] at H
        replace H := Option.bind_eq_some_iff.mp H
        obtain ⟨t180, A220, H⟩ := H
        replace H : (if t180 = true then ((lex_Lex.f a0).bind fun bt181 => (if bt181.2.1 = 0 then (if (bt181.1.length : Int) = 2 then (if 0 < (bt181.1.length : Int) then (if (!(((rd_T43 bt181.1 0).f0) == 0) || (!((((rd_T43 bt181.1 0).f1).toList) == a0.toList) || (!(((rd_T43 bt181.1 0).f2) == 0) || (!(((rd_T43 bt181.1 0).f3) == 1))))) = true then (some false) else (erratalaw17_LexTexts.j1 kj7 a1 t172)) else (none)) else (some false)) else (some false))) else (erratalaw17_LexTexts.j1 kj7 a1 t172)) = some r := H
        have A22 := Aside0.mk A220
        clear A220
        have HC23 := Aside0.mk H
        clear H
        go_upto_if 52 with (first | ((with_reducible refine gate_callee (f := 29) rfl ?_); refine goesL_ (some 52) rfl rfl Tryd.func29 (by kernel_rfl) rfl #[.string a0] rfl (by (try simp only [List.map_toArray, List.map_cons, List.map_nil]); first | done | rfl | (simp only [List.length_drop, List.length_take]; rfl)) ?_; (with_reducible refine (shape_Name.calls a0 t180 _ A22.out).mono ?_); rintro e w24 ⟨rfl, hb⟩; refine ⟨_, rfl, ?_⟩; have n0_ := Aside0.mk (below_step (by repeat (first | (with_reducible first | exact HB.out | apply below_alloc | apply pw_below_drewN | apply below_drew1) | exact HB.out)) hb); clear HB; have HB := n0_; clear n0_; (try clear hb); (try clear hb2); (try clear hk); (try clear hi)))
        (try simp only [Act.put, List.setIfInBounds_toArray, List.set_cons_zero, List.set_cons_succ])
        go_cut [] (fun wc => ∃ (kq : Nat), Aside0 (erratalaw17_LexTexts.j1 kq a1 t172 = some r) ∧ Aside0 (kq ≤ kj7) ∧ Aside0 (Below w.heap.size w wc))
        case first =>
          have H := HC23.out
          clear HC23
          by_cases c25 : t180 = true
          · subst c25
            have H1 : ((lex_Lex.f a0).bind fun bt181 => (if bt181.2.1 = 0 then (if (bt181.1.length : Int) = 2 then (if 0 < (bt181.1.length : Int) then (if (!(((rd_T43 bt181.1 0).f0) == 0) || (!((((rd_T43 bt181.1 0).f1).toList) == a0.toList) || (!(((rd_T43 bt181.1 0).f2) == 0) || (!(((rd_T43 bt181.1 0).f3) == 1))))) = true then (some false) else (erratalaw17_LexTexts.j1 kj7 a1 t172)) else (none)) else (some false)) else (some false))) = some r := by rw [if_pos rfl] at H; exact H
            clear H
            have H := H1
            clear H1
            replace H := Option.bind_eq_some_iff.mp H
            obtain ⟨⟨t181, t182, t183⟩, A260, H⟩ := H
            replace H : (if t182 = 0 then (if (t181.length : Int) = 2 then (if 0 < (t181.length : Int) then (if (!(((rd_T43 t181 0).f0) == 0) || (!((((rd_T43 t181 0).f1).toList) == a0.toList) || (!(((rd_T43 t181 0).f2) == 0) || (!(((rd_T43 t181 0).f3) == 1))))) = true then (some false) else (erratalaw17_LexTexts.j1 kj7 a1 t172)) else (none)) else (some false)) else (some false)) = some r := H
            have A26 := Aside0.mk A260
            clear A260
            by_cases c27 : t182 = 0
            · rw [if_pos c27] at H
              have c27b0 : (t182 == 0) = true := beq_iff_eq.mpr c27
              have c27b1 : (t182 != 0) = false := bne_eq_false_iff_eq.mpr c27
              clear c27
              (first | rw [c27b0] | (simp only [i64_w, i32_w]; rw [c27b0]) | skip)
              by_cases c28 : (t181.length : Int) = 2
              · rw [if_pos c28] at H
                have c28b0 : ((t181.length : Int) == 2) = true := beq_iff_eq.mpr c28
                have c28b1 : ((t181.length : Int) != 2) = false := bne_eq_false_iff_eq.mpr c28
                clear c28
                by_cases c29 : 0 < (t181.length : Int)
                · rw [if_pos c29] at H
                  have c29b0 : decide (0 < (t181.length : Int)) = true := decide_eq_true c29
                  have c29b1 : decide (0 < t181.length) = true := decide_eq_true (by omega)
                  clear c29
                  by_cases c30 : (!(((rd_T43 t181 0).f0) == 0) || (!((((rd_T43 t181 0).f1).toList) == a0.toList) || (!(((rd_T43 t181 0).f2) == 0) || (!(((rd_T43 t181 0).f3) == 1))))) = true
                  · rw [if_pos c30] at H
                    have c30b0 : (!(((rd_T43 t181 0).f0) == 0) || (!((((rd_T43 t181 0).f1).toList) == a0.toList) || (!(((rd_T43 t181 0).f2) == 0) || (!(((rd_T43 t181 0).f3) == 1))))) = true := c30
                    clear c30
                    obtain rfl := Option.some.inj H
                    go_wp2_with (first | ((with_reducible refine gate_callee (f := 27) rfl ?_); refine goesL_ (some 55) rfl rfl Tryd.func27 (by kernel_rfl) rfl #[.string a0] rfl (by (try simp only [List.map_toArray, List.map_cons, List.map_nil]); first | done | rfl | (simp only [List.length_drop, List.length_take]; rfl)) ?_; (with_reducible refine (lex_Lex.calls a0 t181 t182 t183 _ ?side1 A26.out).mono ?_); (case side1 => exact envB HE.out (by repeat (first | (with_reducible first | exact HB.out | apply below_alloc | apply pw_below_drewN | apply below_drew1) | exact HB.out))); rintro e w31 ⟨v184, rfl, ho0, hb⟩; refine ⟨_, rfl, ?_⟩; have n0_ := Aside0.mk (Kd.R_lower ho0 (below_size (by repeat (first | (with_reducible first | exact HB.out | apply below_alloc | apply pw_below_drewN | apply below_drew1) | exact HB.out)))); have n1_ := Aside0.mk (below_step (by repeat (first | (with_reducible first | exact HB.out | apply below_alloc | apply pw_below_drewN | apply below_drew1) | exact HB.out)) hb); clear HB; have HO185 := n0_; have HB := n1_; clear n0_ n1_; (try clear hb); (try clear hb2); (try clear hk); (try clear hi); (try clear ho0); obtain ⟨Ao32, co32, eo32⟩ := Kd.R_slice HO185.out; subst eo32; have p186 : 0 ≤ (0 : Int) := (by omega); have q186 : 0 < (t181.length : Int) := of_decide_eq_true (by first | (with_reducible assumption) | assumption); obtain ⟨ad186, e186, hx186_0, hx186_1, hx186_2, hx186_3⟩ := at_T43 (Kd.R_reads' HO185.out).2.2 0 p186 q186; cases e186; have qi186 : (0 < t181.length) = True := eq_true (by omega); (try rw [show ((0 : Int)).toNat = 0 from rfl] at hx186_0); (try rw [show 0 * 4 = 0 from rfl] at hx186_0); (try rw [Addr.add_zero'] at hx186_0); (try rw [show ((0 : Int)).toNat = 0 from rfl] at hx186_1); (try rw [show 0 * 4 = 0 from rfl] at hx186_1); (try rw [Addr.add_zero'] at hx186_1); (try rw [show ((0 : Int)).toNat = 0 from rfl] at hx186_2); (try rw [show 0 * 4 = 0 from rfl] at hx186_2); (try rw [Addr.add_zero'] at hx186_2); (try rw [show ((0 : Int)).toNat = 0 from rfl] at hx186_3); (try rw [show 0 * 4 = 0 from rfl] at hx186_3); (try rw [Addr.add_zero'] at hx186_3); replace p186 := eq_true p186; replace q186 := eq_true q186))
                    go_ret
                    exact ⟨by first | rfl | (simp [errW_none, errW_some] <;> rfl) | (simp [*, errW_none, errW_some] <;> rfl), by repeat (first | (with_reducible first | exact HB.out | apply below_alloc | apply pw_below_drewN | apply below_drew1) | exact HB.out)⟩
                  · rw [if_neg c30] at H
                    have c30b0 : (!(((rd_T43 t181 0).f0) == 0) || (!((((rd_T43 t181 0).f1).toList) == a0.toList) || (!(((rd_T43 t181 0).f2) == 0) || (!(((rd_T43 t181 0).f3) == 1))))) = false := by simpa using c30
                    clear c30
                    have H' := Aside0.mk H
                    clear H
                    go_wp2_with (first | ((with_reducible refine gate_callee (f := 27) rfl ?_); refine goesL_ (some 55) rfl rfl Tryd.func27 (by kernel_rfl) rfl #[.string a0] rfl (by (try simp only [List.map_toArray, List.map_cons, List.map_nil]); first | done | rfl | (simp only [List.length_drop, List.length_take]; rfl)) ?_; (with_reducible refine (lex_Lex.calls a0 t181 t182 t183 _ ?side1 A26.out).mono ?_); (case side1 => exact envB HE.out (by repeat (first | (with_reducible first | exact HB.out | apply below_alloc | apply pw_below_drewN | apply below_drew1) | exact HB.out))); rintro e w33 ⟨v184, rfl, ho0, hb⟩; refine ⟨_, rfl, ?_⟩; have n0_ := Aside0.mk (Kd.R_lower ho0 (below_size (by repeat (first | (with_reducible first | exact HB.out | apply below_alloc | apply pw_below_drewN | apply below_drew1) | exact HB.out)))); have n1_ := Aside0.mk (below_step (by repeat (first | (with_reducible first | exact HB.out | apply below_alloc | apply pw_below_drewN | apply below_drew1) | exact HB.out)) hb); clear HB; have HO185 := n0_; have HB := n1_; clear n0_ n1_; (try clear hb); (try clear hb2); (try clear hk); (try clear hi); (try clear ho0); obtain ⟨Ao34, co34, eo34⟩ := Kd.R_slice HO185.out; subst eo34; have p186 : 0 ≤ (0 : Int) := (by omega); have q186 : 0 < (t181.length : Int) := of_decide_eq_true (by first | (with_reducible assumption) | assumption); obtain ⟨ad186, e186, hx186_0, hx186_1, hx186_2, hx186_3⟩ := at_T43 (Kd.R_reads' HO185.out).2.2 0 p186 q186; cases e186; have qi186 : (0 < t181.length) = True := eq_true (by omega); (try rw [show ((0 : Int)).toNat = 0 from rfl] at hx186_0); (try rw [show 0 * 4 = 0 from rfl] at hx186_0); (try rw [Addr.add_zero'] at hx186_0); (try rw [show ((0 : Int)).toNat = 0 from rfl] at hx186_1); (try rw [show 0 * 4 = 0 from rfl] at hx186_1); (try rw [Addr.add_zero'] at hx186_1); (try rw [show ((0 : Int)).toNat = 0 from rfl] at hx186_2); (try rw [show 0 * 4 = 0 from rfl] at hx186_2); (try rw [Addr.add_zero'] at hx186_2); (try rw [show ((0 : Int)).toNat = 0 from rfl] at hx186_3); (try rw [show 0 * 4 = 0 from rfl] at hx186_3); (try rw [Addr.add_zero'] at hx186_3); replace p186 := eq_true p186; replace q186 := eq_true q186))
                    go_meet
                    case rel => exact ⟨_, H', ⟨by have := HJ7.out; first | omega | exact Nat.le_refl _⟩, ⟨by repeat (first | (with_reducible first | exact HB.out | apply below_alloc | apply pw_below_drewN | apply below_drew1) | exact HB.out)⟩⟩
                · rw [if_neg c29] at H
                  exact absurd H (by simp)
              · rw [if_neg c28] at H
                have c28b0 : ((t181.length : Int) == 2) = false := beq_eq_false_iff_ne.mpr c28
                have c28b1 : ((t181.length : Int) != 2) = true := bne_iff_ne.mpr c28
                obtain rfl := Option.some.inj H
                go_wp2_with (first | ((with_reducible refine gate_callee (f := 27) rfl ?_); refine goesL_ (some 55) rfl rfl Tryd.func27 (by kernel_rfl) rfl #[.string a0] rfl (by (try simp only [List.map_toArray, List.map_cons, List.map_nil]); first | done | rfl | (simp only [List.length_drop, List.length_take]; rfl)) ?_; (with_reducible refine (lex_Lex.calls a0 t181 t182 t183 _ ?side1 A26.out).mono ?_); (case side1 => exact envB HE.out (by repeat (first | (with_reducible first | exact HB.out | apply below_alloc | apply pw_below_drewN | apply below_drew1) | exact HB.out))); rintro e w35 ⟨v184, rfl, ho0, hb⟩; refine ⟨_, rfl, ?_⟩; have n0_ := Aside0.mk (Kd.R_lower ho0 (below_size (by repeat (first | (with_reducible first | exact HB.out | apply below_alloc | apply pw_below_drewN | apply below_drew1) | exact HB.out)))); have n1_ := Aside0.mk (below_step (by repeat (first | (with_reducible first | exact HB.out | apply below_alloc | apply pw_below_drewN | apply below_drew1) | exact HB.out)) hb); clear HB; have HO185 := n0_; have HB := n1_; clear n0_ n1_; (try clear hb); (try clear hb2); (try clear hk); (try clear hi); (try clear ho0); obtain ⟨Ao36, co36, eo36⟩ := Kd.R_slice HO185.out; subst eo36))
                go_ret
                exact ⟨by first | rfl | (simp [errW_none, errW_some] <;> rfl) | (simp [*, errW_none, errW_some] <;> rfl), by repeat (first | (with_reducible first | exact HB.out | apply below_alloc | apply pw_below_drewN | apply below_drew1) | exact HB.out)⟩
            · rw [if_neg c27] at H
              have c27b0 : (t182 == 0) = false := beq_eq_false_iff_ne.mpr c27
              have c27b1 : (t182 != 0) = true := bne_iff_ne.mpr c27
              (first | rw [c27b0] | (simp only [i64_w, i32_w]; rw [c27b0]) | skip)
              obtain rfl := Option.some.inj H
              go_wp2_with (first | ((with_reducible refine gate_callee (f := 27) rfl ?_); refine goesL_ (some 55) rfl rfl Tryd.func27 (by kernel_rfl) rfl #[.string a0] rfl (by (try simp only [List.map_toArray, List.map_cons, List.map_nil]); first | done | rfl | (simp only [List.length_drop, List.length_take]; rfl)) ?_; (with_reducible refine (lex_Lex.calls a0 t181 t182 t183 _ ?side1 A26.out).mono ?_); (case side1 => exact envB HE.out (by repeat (first | (with_reducible first | exact HB.out | apply below_alloc | apply pw_below_drewN | apply below_drew1) | exact HB.out))); rintro e w37 ⟨v184, rfl, ho0, hb⟩; refine ⟨_, rfl, ?_⟩; have n0_ := Aside0.mk (Kd.R_lower ho0 (below_size (by repeat (first | (with_reducible first | exact HB.out | apply below_alloc | apply pw_below_drewN | apply below_drew1) | exact HB.out)))); have n1_ := Aside0.mk (below_step (by repeat (first | (with_reducible first | exact HB.out | apply below_alloc | apply pw_below_drewN | apply below_drew1) | exact HB.out)) hb); clear HB; have HO185 := n0_; have HB := n1_; clear n0_ n1_; (try clear hb); (try clear hb2); (try clear hk); (try clear hi); (try clear ho0)))
              go_ret
              exact ⟨by first | rfl | (simp [errW_none, errW_some] <;> rfl) | (simp [*, errW_none, errW_some] <;> rfl), by repeat (first | (with_reducible first | exact HB.out | apply below_alloc | apply pw_below_drewN | apply below_drew1) | exact HB.out)⟩
          · replace c25 := Bool.eq_false_iff.mpr c25
            subst c25
            have H1 : (erratalaw17_LexTexts.j1 kj7 a1 t172) = some r := by rw [if_neg (show ¬ (false = true) by decide)] at H; exact H
            clear H
            have H := H1
            clear H1
            have H' := Aside0.mk H
            clear H
            go_wp2
            go_meet
            case rel => exact ⟨_, H', ⟨by have := HJ7.out; first | omega | exact Nat.le_refl _⟩, ⟨by repeat (first | (with_reducible first | exact HB.out | apply below_alloc | apply pw_below_drewN | apply below_drew1) | exact HB.out)⟩⟩
        case rest =>
          clear HC23
          try clear c1
          try clear p1
          try clear q1
          try clear hx1
          try clear qi1
          try clear c2
          try clear p2
          try clear c3
          try clear c4
          try clear c4b0
          try clear c4b1
          try clear c9
          try clear c12
          try clear c12b0
          try clear c12b1
          try clear c13
          try clear c13b0
          try clear c13b1
          try clear c14
          try clear c14b0
          try clear c14b1
          try clear c15
          try clear c15b0
          try clear c15b1
          try clear c16
          try clear c16b0
          try clear c16b1
          try clear c17
          try clear c17b0
          try clear c17b1
          try clear p17
          try clear q17
          try clear hx17
          try clear qi17
          try clear c18
          try clear c18b0
          try clear p18
          try clear q18
          try clear hx18
          try clear qi18
          try clear c23
          try clear c25
          try clear c26
          try clear c27
          try clear c27b0
          try clear c27b1
          try clear c28
          try clear c28b0
          try clear c28b1
          try clear c29
          try clear c29b0
          try clear c29b1
          try clear c30
          try clear c30b0
          try clear hx179_0
          try clear hx179_1
          try clear hx179_2
          try clear hx179_3
          try clear hx186_0
          try clear hx186_1
          try clear hx186_2
          try clear hx186_3
          try clear p1
          try clear p17
          try clear p179
          try clear p186
          try clear p2
          try clear q1
          try clear q17
          try clear q179
          try clear q186
          obtain ⟨kq, HA, HJ22, HB⟩ := hcut
          cases kq with
          | zero => exact absurd HA.out (by simp [erratalaw17_LexTexts.j1])
          | succ kj22 =>
            have H := HA.out
            clear HA
            simp only [erratalaw17_LexTexts.j1] at H
            replace H := Option.bind_eq_some_iff.mp H
            obtain ⟨t187, A380, H⟩ := H
            replace H : ((lex_Lex.f t187).bind fun bt188 => (if a1 < 0 then (if t172 = true then (if a1 = (-9223372036854775808) then (some true) else (if bt188.2.1 = 0 then (if (bt188.1.length : Int) = 3 then (if 0 < (bt188.1.length : Int) then (if ((rd_T43 bt188.1 0).f1).toList = ([45] : List UInt8) then (if 1 < (bt188.1.length : Int) then (some (((rd_T43 bt188.1 1).f2) == (wrap64 (-a1)))) else (none)) else (some false)) else (none)) else (some false)) else (some false))) else (some false)) else (if t172 = true then (if bt188.2.1 = 0 then (if (bt188.1.length : Int) = 2 then (if 0 < (bt188.1.length : Int) then (if ((rd_T43 bt188.1 0).f0) = 1 then (some (((rd_T43 bt188.1 0).f2) == a1)) else (some false)) else (none)) else (some false)) else (some false)) else (some false)))) = some r := H
            have A38 := Aside0.mk A380
            clear A380
            replace H := Option.bind_eq_some_iff.mp H
            obtain ⟨⟨t188, t189, t190⟩, A390, H⟩ := H
            replace H : (if a1 < 0 then (if t172 = true then (if a1 = (-9223372036854775808) then (some true) else (if t189 = 0 then (if (t188.length : Int) = 3 then (if 0 < (t188.length : Int) then (if ((rd_T43 t188 0).f1).toList = ([45] : List UInt8) then (if 1 < (t188.length : Int) then (some (((rd_T43 t188 1).f2) == (wrap64 (-a1)))) else (none)) else (some false)) else (none)) else (some false)) else (some false))) else (some false)) else (if t172 = true then (if t189 = 0 then (if (t188.length : Int) = 2 then (if 0 < (t188.length : Int) then (if ((rd_T43 t188 0).f0) = 1 then (some (((rd_T43 t188 0).f2) == a1)) else (some false)) else (none)) else (some false)) else (some false)) else (some false))) = some r := H
            have A39 := Aside0.mk A390
            clear A390
            by_cases c40 : a1 < 0
            · rw [if_pos c40] at H
              have c40b0 : decide (a1 < 0) = true := decide_eq_true c40
              clear c40
              by_cases c41 : t172 = true
              · subst c41
                have H1 : (if a1 = (-9223372036854775808) then (some true) else (if t189 = 0 then (if (t188.length : Int) = 3 then (if 0 < (t188.length : Int) then (if ((rd_T43 t188 0).f1).toList = ([45] : List UInt8) then (if 1 < (t188.length : Int) then (some (((rd_T43 t188 1).f2) == (wrap64 (-a1)))) else (none)) else (some false)) else (none)) else (some false)) else (some false))) = some r := by rw [if_pos rfl] at H; exact H
                clear H
                have H := H1
                clear H1
                by_cases c42 : a1 = (-9223372036854775808)
                · rw [if_pos c42] at H
                  have c42b0 : (a1 == (-9223372036854775808)) = true := beq_iff_eq.mpr c42
                  have c42b1 : (a1 != (-9223372036854775808)) = false := bne_eq_false_iff_eq.mpr c42
                  clear c42
                  obtain rfl := Option.some.inj H
                  go_wp2_with (first | ((with_reducible refine gate_callee (f := 21) rfl ?_); refine goesL_ (some 76) rfl rfl Tryd.func21 (by kernel_rfl) rfl #[.int .i64 a1] rfl (by (try simp only [List.map_toArray, List.map_cons, List.map_nil]); first | done | rfl | (simp only [List.length_drop, List.length_take]; rfl)) ?_; (with_reducible refine (text_Decimal.calls a1 t187 _ ?side1 A38.out).mono ?_); (case side1 => exact envB HE.out (by repeat (first | (with_reducible first | exact HB.out | apply below_alloc | apply pw_below_drewN | apply below_drew1) | exact HB.out))); rintro e w43 ⟨rfl, hb⟩; refine ⟨_, rfl, ?_⟩; have n0_ := Aside0.mk (below_step (by repeat (first | (with_reducible first | exact HB.out | apply below_alloc | apply pw_below_drewN | apply below_drew1) | exact HB.out)) hb); clear HB; have HB := n0_; clear n0_; (try clear hb); (try clear hb2); (try clear hk); (try clear hi)) | ((with_reducible refine gate_callee (f := 27) rfl ?_); refine goesL_ (some 77) rfl rfl Tryd.func27 (by kernel_rfl) rfl #[.string t187] rfl (by (try simp only [List.map_toArray, List.map_cons, List.map_nil]); first | done | rfl | (simp only [List.length_drop, List.length_take]; rfl)) ?_; (with_reducible refine (lex_Lex.calls t187 t188 t189 t190 _ ?side1 A39.out).mono ?_); (case side1 => exact envB HE.out (by repeat (first | (with_reducible first | exact HB.out | apply below_alloc | apply pw_below_drewN | apply below_drew1) | exact HB.out))); rintro e w44 ⟨v191, rfl, ho0, hb⟩; refine ⟨_, rfl, ?_⟩; have n0_ := Aside0.mk (Kd.R_lower ho0 (below_size (by repeat (first | (with_reducible first | exact HB.out | apply below_alloc | apply pw_below_drewN | apply below_drew1) | exact HB.out)))); have n1_ := Aside0.mk (below_step (by repeat (first | (with_reducible first | exact HB.out | apply below_alloc | apply pw_below_drewN | apply below_drew1) | exact HB.out)) hb); clear HB; have HO192 := n0_; have HB := n1_; clear n0_ n1_; (try clear hb); (try clear hb2); (try clear hk); (try clear hi); (try clear ho0)))
                  go_ret
                  exact ⟨by first | rfl | (simp [errW_none, errW_some] <;> rfl) | (simp [*, errW_none, errW_some] <;> rfl), by repeat (first | (with_reducible first | exact HB.out | apply below_alloc | apply pw_below_drewN | apply below_drew1) | exact HB.out)⟩
                · rw [if_neg c42] at H
                  have c42b0 : (a1 == (-9223372036854775808)) = false := beq_eq_false_iff_ne.mpr c42
                  have c42b1 : (a1 != (-9223372036854775808)) = true := bne_iff_ne.mpr c42
                  by_cases c45 : t189 = 0
                  · rw [if_pos c45] at H
                    have c45b0 : (t189 == 0) = true := beq_iff_eq.mpr c45
                    have c45b1 : (t189 != 0) = false := bne_eq_false_iff_eq.mpr c45
                    clear c45
                    by_cases c46 : (t188.length : Int) = 3
                    · rw [if_pos c46] at H
                      have c46b0 : ((t188.length : Int) == 3) = true := beq_iff_eq.mpr c46
                      have c46b1 : ((t188.length : Int) != 3) = false := bne_eq_false_iff_eq.mpr c46
                      clear c46
                      by_cases c47 : 0 < (t188.length : Int)
                      · rw [if_pos c47] at H
                        have c47b0 : decide (0 < (t188.length : Int)) = true := decide_eq_true c47
                        have c47b1 : decide (0 < t188.length) = true := decide_eq_true (by omega)
                        clear c47
                        by_cases c48 : ((rd_T43 t188 0).f1).toList = ([45] : List UInt8)
                        · rw [if_pos c48] at H
                          have c48b0 : (((rd_T43 t188 0).f1).toList == ([45] : List UInt8)) = true := beq_iff_eq.mpr c48
                          have c48b1 : (((rd_T43 t188 0).f1).toList != ([45] : List UInt8)) = false := bne_eq_false_iff_eq.mpr c48
                          clear c48
                          by_cases c49 : 1 < (t188.length : Int)
                          · rw [if_pos c49] at H
                            have c49b0 : decide (1 < (t188.length : Int)) = true := decide_eq_true c49
                            have c49b1 : decide (1 < t188.length) = true := decide_eq_true (by omega)
                            clear c49
                            obtain rfl := Option.some.inj H
                            go_wp2_with (first | ((with_reducible refine gate_callee (f := 21) rfl ?_); refine goesL_ (some 76) rfl rfl Tryd.func21 (by kernel_rfl) rfl #[.int .i64 a1] rfl (by (try simp only [List.map_toArray, List.map_cons, List.map_nil]); first | done | rfl | (simp only [List.length_drop, List.length_take]; rfl)) ?_; (with_reducible refine (text_Decimal.calls a1 t187 _ ?side1 A38.out).mono ?_); (case side1 => exact envB HE.out (by repeat (first | (with_reducible first | exact HB.out | apply below_alloc | apply pw_below_drewN | apply below_drew1) | exact HB.out))); rintro e w50 ⟨rfl, hb⟩; refine ⟨_, rfl, ?_⟩; have n0_ := Aside0.mk (below_step (by repeat (first | (with_reducible first | exact HB.out | apply below_alloc | apply pw_below_drewN | apply below_drew1) | exact HB.out)) hb); clear HB; have HB := n0_; clear n0_; (try clear hb); (try clear hb2); (try clear hk); (try clear hi)) | ((with_reducible refine gate_callee (f := 27) rfl ?_); refine goesL_ (some 77) rfl rfl Tryd.func27 (by kernel_rfl) rfl #[.string t187] rfl (by (try simp only [List.map_toArray, List.map_cons, List.map_nil]); first | done | rfl | (simp only [List.length_drop, List.length_take]; rfl)) ?_; (with_reducible refine (lex_Lex.calls t187 t188 t189 t190 _ ?side1 A39.out).mono ?_); (case side1 => exact envB HE.out (by repeat (first | (with_reducible first | exact HB.out | apply below_alloc | apply pw_below_drewN | apply below_drew1) | exact HB.out))); rintro e w51 ⟨v191, rfl, ho0, hb⟩; refine ⟨_, rfl, ?_⟩; have n0_ := Aside0.mk (Kd.R_lower ho0 (below_size (by repeat (first | (with_reducible first | exact HB.out | apply below_alloc | apply pw_below_drewN | apply below_drew1) | exact HB.out)))); have n1_ := Aside0.mk (below_step (by repeat (first | (with_reducible first | exact HB.out | apply below_alloc | apply pw_below_drewN | apply below_drew1) | exact HB.out)) hb); clear HB; have HO192 := n0_; have HB := n1_; clear n0_ n1_; (try clear hb); (try clear hb2); (try clear hk); (try clear hi); (try clear ho0); obtain ⟨Ao52, co52, eo52⟩ := Kd.R_slice HO192.out; subst eo52; have p193 : 0 ≤ (0 : Int) := (by omega); have q193 : 0 < (t188.length : Int) := of_decide_eq_true (by first | (with_reducible assumption) | assumption); obtain ⟨ad193, e193, hx193_0, hx193_1, hx193_2, hx193_3⟩ := at_T43 (Kd.R_reads' HO192.out).2.2 0 p193 q193; cases e193; have qi193 : (0 < t188.length) = True := eq_true (by omega); (try rw [show ((0 : Int)).toNat = 0 from rfl] at hx193_0); (try rw [show 0 * 4 = 0 from rfl] at hx193_0); (try rw [Addr.add_zero'] at hx193_0); (try rw [show ((0 : Int)).toNat = 0 from rfl] at hx193_1); (try rw [show 0 * 4 = 0 from rfl] at hx193_1); (try rw [Addr.add_zero'] at hx193_1); (try rw [show ((0 : Int)).toNat = 0 from rfl] at hx193_2); (try rw [show 0 * 4 = 0 from rfl] at hx193_2); (try rw [Addr.add_zero'] at hx193_2); (try rw [show ((0 : Int)).toNat = 0 from rfl] at hx193_3); (try rw [show 0 * 4 = 0 from rfl] at hx193_3); (try rw [Addr.add_zero'] at hx193_3); replace p193 := eq_true p193; replace q193 := eq_true q193; have p194 : 0 ≤ (1 : Int) := (by omega); have q194 : 1 < (t188.length : Int) := of_decide_eq_true (by first | (with_reducible assumption) | assumption); obtain ⟨ad194, e194, hx194_0, hx194_1, hx194_2, hx194_3⟩ := at_T43 (Kd.R_reads' HO192.out).2.2 1 p194 q194; obtain rfl : ad193 = ad194 := (by injection e194); (try simp only [show (1 : Int).toNat = 1 from rfl, Nat.reduceMul, Nat.reduceEqDiff, Go.Addr.add, ↓reduceIte] at hx194_0); (try simp only [show (1 : Int).toNat = 1 from rfl, Nat.reduceMul, Nat.reduceEqDiff, Go.Addr.add, ↓reduceIte] at hx194_1); (try simp only [show (1 : Int).toNat = 1 from rfl, Nat.reduceMul, Nat.reduceEqDiff, Go.Addr.add, ↓reduceIte] at hx194_2); (try simp only [show (1 : Int).toNat = 1 from rfl, Nat.reduceMul, Nat.reduceEqDiff, Go.Addr.add, ↓reduceIte] at hx194_3); have qi194 : (1 < t188.length) = True := eq_true (by omega); (try rw [show ((1 : Int)).toNat = 1 from rfl] at hx194_0); (try rw [show 1 * 4 = 4 from rfl] at hx194_0); (try rw [show ((1 : Int)).toNat = 1 from rfl] at hx194_1); (try rw [show 1 * 4 = 4 from rfl] at hx194_1); (try rw [show ((1 : Int)).toNat = 1 from rfl] at hx194_2); (try rw [show 1 * 4 = 4 from rfl] at hx194_2); (try rw [show ((1 : Int)).toNat = 1 from rfl] at hx194_3); (try rw [show 1 * 4 = 4 from rfl] at hx194_3); replace p194 := eq_true p194; replace q194 := eq_true q194))
                            go_ret
                            exact ⟨by first | rfl | (simp [errW_none, errW_some] <;> rfl) | (simp [*, errW_none, errW_some] <;> rfl), by repeat (first | (with_reducible first | exact HB.out | apply below_alloc | apply pw_below_drewN | apply below_drew1) | exact HB.out)⟩
                          · rw [if_neg c49] at H
                            exact absurd H (by simp)
                        · rw [if_neg c48] at H
                          have c48b0 : (((rd_T43 t188 0).f1).toList == ([45] : List UInt8)) = false := beq_eq_false_iff_ne.mpr c48
                          have c48b1 : (((rd_T43 t188 0).f1).toList != ([45] : List UInt8)) = true := bne_iff_ne.mpr c48
                          obtain rfl := Option.some.inj H
                          go_wp2_with (first | ((with_reducible refine gate_callee (f := 21) rfl ?_); refine goesL_ (some 76) rfl rfl Tryd.func21 (by kernel_rfl) rfl #[.int .i64 a1] rfl (by (try simp only [List.map_toArray, List.map_cons, List.map_nil]); first | done | rfl | (simp only [List.length_drop, List.length_take]; rfl)) ?_; (with_reducible refine (text_Decimal.calls a1 t187 _ ?side1 A38.out).mono ?_); (case side1 => exact envB HE.out (by repeat (first | (with_reducible first | exact HB.out | apply below_alloc | apply pw_below_drewN | apply below_drew1) | exact HB.out))); rintro e w53 ⟨rfl, hb⟩; refine ⟨_, rfl, ?_⟩; have n0_ := Aside0.mk (below_step (by repeat (first | (with_reducible first | exact HB.out | apply below_alloc | apply pw_below_drewN | apply below_drew1) | exact HB.out)) hb); clear HB; have HB := n0_; clear n0_; (try clear hb); (try clear hb2); (try clear hk); (try clear hi)) | ((with_reducible refine gate_callee (f := 27) rfl ?_); refine goesL_ (some 77) rfl rfl Tryd.func27 (by kernel_rfl) rfl #[.string t187] rfl (by (try simp only [List.map_toArray, List.map_cons, List.map_nil]); first | done | rfl | (simp only [List.length_drop, List.length_take]; rfl)) ?_; (with_reducible refine (lex_Lex.calls t187 t188 t189 t190 _ ?side1 A39.out).mono ?_); (case side1 => exact envB HE.out (by repeat (first | (with_reducible first | exact HB.out | apply below_alloc | apply pw_below_drewN | apply below_drew1) | exact HB.out))); rintro e w54 ⟨v191, rfl, ho0, hb⟩; refine ⟨_, rfl, ?_⟩; have n0_ := Aside0.mk (Kd.R_lower ho0 (below_size (by repeat (first | (with_reducible first | exact HB.out | apply below_alloc | apply pw_below_drewN | apply below_drew1) | exact HB.out)))); have n1_ := Aside0.mk (below_step (by repeat (first | (with_reducible first | exact HB.out | apply below_alloc | apply pw_below_drewN | apply below_drew1) | exact HB.out)) hb); clear HB; have HO192 := n0_; have HB := n1_; clear n0_ n1_; (try clear hb); (try clear hb2); (try clear hk); (try clear hi); (try clear ho0); obtain ⟨Ao55, co55, eo55⟩ := Kd.R_slice HO192.out; subst eo55; have p193 : 0 ≤ (0 : Int) := (by omega); have q193 : 0 < (t188.length : Int) := of_decide_eq_true (by first | (with_reducible assumption) | assumption); obtain ⟨ad193, e193, hx193_0, hx193_1, hx193_2, hx193_3⟩ := at_T43 (Kd.R_reads' HO192.out).2.2 0 p193 q193; cases e193; have qi193 : (0 < t188.length) = True := eq_true (by omega); (try rw [show ((0 : Int)).toNat = 0 from rfl] at hx193_0); (try rw [show 0 * 4 = 0 from rfl] at hx193_0); (try rw [Addr.add_zero'] at hx193_0); (try rw [show ((0 : Int)).toNat = 0 from rfl] at hx193_1); (try rw [show 0 * 4 = 0 from rfl] at hx193_1); (try rw [Addr.add_zero'] at hx193_1); (try rw [show ((0 : Int)).toNat = 0 from rfl] at hx193_2); (try rw [show 0 * 4 = 0 from rfl] at hx193_2); (try rw [Addr.add_zero'] at hx193_2); (try rw [show ((0 : Int)).toNat = 0 from rfl] at hx193_3); (try rw [show 0 * 4 = 0 from rfl] at hx193_3); (try rw [Addr.add_zero'] at hx193_3); replace p193 := eq_true p193; replace q193 := eq_true q193))
                          go_ret
                          exact ⟨by first | rfl | (simp [errW_none, errW_some] <;> rfl) | (simp [*, errW_none, errW_some] <;> rfl), by repeat (first | (with_reducible first | exact HB.out | apply below_alloc | apply pw_below_drewN | apply below_drew1) | exact HB.out)⟩
                      · rw [if_neg c47] at H
                        exact absurd H (by simp)
                    · rw [if_neg c46] at H
                      have c46b0 : ((t188.length : Int) == 3) = false := beq_eq_false_iff_ne.mpr c46
                      have c46b1 : ((t188.length : Int) != 3) = true := bne_iff_ne.mpr c46
                      obtain rfl := Option.some.inj H
                      go_wp2_with (first | ((with_reducible refine gate_callee (f := 21) rfl ?_); refine goesL_ (some 76) rfl rfl Tryd.func21 (by kernel_rfl) rfl #[.int .i64 a1] rfl (by (try simp only [List.map_toArray, List.map_cons, List.map_nil]); first | done | rfl | (simp only [List.length_drop, List.length_take]; rfl)) ?_; (with_reducible refine (text_Decimal.calls a1 t187 _ ?side1 A38.out).mono ?_); (case side1 => exact envB HE.out (by repeat (first | (with_reducible first | exact HB.out | apply below_alloc | apply pw_below_drewN | apply below_drew1) | exact HB.out))); rintro e w56 ⟨rfl, hb⟩; refine ⟨_, rfl, ?_⟩; have n0_ := Aside0.mk (below_step (by repeat (first | (with_reducible first | exact HB.out | apply below_alloc | apply pw_below_drewN | apply below_drew1) | exact HB.out)) hb); clear HB; have HB := n0_; clear n0_; (try clear hb); (try clear hb2); (try clear hk); (try clear hi)) | ((with_reducible refine gate_callee (f := 27) rfl ?_); refine goesL_ (some 77) rfl rfl Tryd.func27 (by kernel_rfl) rfl #[.string t187] rfl (by (try simp only [List.map_toArray, List.map_cons, List.map_nil]); first | done | rfl | (simp only [List.length_drop, List.length_take]; rfl)) ?_; (with_reducible refine (lex_Lex.calls t187 t188 t189 t190 _ ?side1 A39.out).mono ?_); (case side1 => exact envB HE.out (by repeat (first | (with_reducible first | exact HB.out | apply below_alloc | apply pw_below_drewN | apply below_drew1) | exact HB.out))); rintro e w57 ⟨v191, rfl, ho0, hb⟩; refine ⟨_, rfl, ?_⟩; have n0_ := Aside0.mk (Kd.R_lower ho0 (below_size (by repeat (first | (with_reducible first | exact HB.out | apply below_alloc | apply pw_below_drewN | apply below_drew1) | exact HB.out)))); have n1_ := Aside0.mk (below_step (by repeat (first | (with_reducible first | exact HB.out | apply below_alloc | apply pw_below_drewN | apply below_drew1) | exact HB.out)) hb); clear HB; have HO192 := n0_; have HB := n1_; clear n0_ n1_; (try clear hb); (try clear hb2); (try clear hk); (try clear hi); (try clear ho0); obtain ⟨Ao58, co58, eo58⟩ := Kd.R_slice HO192.out; subst eo58))
                      go_ret
                      exact ⟨by first | rfl | (simp [errW_none, errW_some] <;> rfl) | (simp [*, errW_none, errW_some] <;> rfl), by repeat (first | (with_reducible first | exact HB.out | apply below_alloc | apply pw_below_drewN | apply below_drew1) | exact HB.out)⟩
                  · rw [if_neg c45] at H
                    have c45b0 : (t189 == 0) = false := beq_eq_false_iff_ne.mpr c45
                    have c45b1 : (t189 != 0) = true := bne_iff_ne.mpr c45
                    obtain rfl := Option.some.inj H
                    go_wp2_with (first | ((with_reducible refine gate_callee (f := 21) rfl ?_); refine goesL_ (some 76) rfl rfl Tryd.func21 (by kernel_rfl) rfl #[.int .i64 a1] rfl (by (try simp only [List.map_toArray, List.map_cons, List.map_nil]); first | done | rfl | (simp only [List.length_drop, List.length_take]; rfl)) ?_; (with_reducible refine (text_Decimal.calls a1 t187 _ ?side1 A38.out).mono ?_); (case side1 => exact envB HE.out (by repeat (first | (with_reducible first | exact HB.out | apply below_alloc | apply pw_below_drewN | apply below_drew1) | exact HB.out))); rintro e w59 ⟨rfl, hb⟩; refine ⟨_, rfl, ?_⟩; have n0_ := Aside0.mk (below_step (by repeat (first | (with_reducible first | exact HB.out | apply below_alloc | apply pw_below_drewN | apply below_drew1) | exact HB.out)) hb); clear HB; have HB := n0_; clear n0_; (try clear hb); (try clear hb2); (try clear hk); (try clear hi)) | ((with_reducible refine gate_callee (f := 27) rfl ?_); refine goesL_ (some 77) rfl rfl Tryd.func27 (by kernel_rfl) rfl #[.string t187] rfl (by (try simp only [List.map_toArray, List.map_cons, List.map_nil]); first | done | rfl | (simp only [List.length_drop, List.length_take]; rfl)) ?_; (with_reducible refine (lex_Lex.calls t187 t188 t189 t190 _ ?side1 A39.out).mono ?_); (case side1 => exact envB HE.out (by repeat (first | (with_reducible first | exact HB.out | apply below_alloc | apply pw_below_drewN | apply below_drew1) | exact HB.out))); rintro e w60 ⟨v191, rfl, ho0, hb⟩; refine ⟨_, rfl, ?_⟩; have n0_ := Aside0.mk (Kd.R_lower ho0 (below_size (by repeat (first | (with_reducible first | exact HB.out | apply below_alloc | apply pw_below_drewN | apply below_drew1) | exact HB.out)))); have n1_ := Aside0.mk (below_step (by repeat (first | (with_reducible first | exact HB.out | apply below_alloc | apply pw_below_drewN | apply below_drew1) | exact HB.out)) hb); clear HB; have HO192 := n0_; have HB := n1_; clear n0_ n1_; (try clear hb); (try clear hb2); (try clear hk); (try clear hi); (try clear ho0)))
                    go_ret
                    exact ⟨by first | rfl | (simp [errW_none, errW_some] <;> rfl) | (simp [*, errW_none, errW_some] <;> rfl), by repeat (first | (with_reducible first | exact HB.out | apply below_alloc | apply pw_below_drewN | apply below_drew1) | exact HB.out)⟩
              · replace c41 := Bool.eq_false_iff.mpr c41
                subst c41
                have H1 : (some false) = some r := by rw [if_neg (show ¬ (false = true) by decide)] at H; exact H
                clear H
                have H := H1
                clear H1
                obtain rfl := Option.some.inj H
                go_wp2_with (first | ((with_reducible refine gate_callee (f := 21) rfl ?_); refine goesL_ (some 76) rfl rfl Tryd.func21 (by kernel_rfl) rfl #[.int .i64 a1] rfl (by (try simp only [List.map_toArray, List.map_cons, List.map_nil]); first | done | rfl | (simp only [List.length_drop, List.length_take]; rfl)) ?_; (with_reducible refine (text_Decimal.calls a1 t187 _ ?side1 A38.out).mono ?_); (case side1 => exact envB HE.out (by repeat (first | (with_reducible first | exact HB.out | apply below_alloc | apply pw_below_drewN | apply below_drew1) | exact HB.out))); rintro e w61 ⟨rfl, hb⟩; refine ⟨_, rfl, ?_⟩; have n0_ := Aside0.mk (below_step (by repeat (first | (with_reducible first | exact HB.out | apply below_alloc | apply pw_below_drewN | apply below_drew1) | exact HB.out)) hb); clear HB; have HB := n0_; clear n0_; (try clear hb); (try clear hb2); (try clear hk); (try clear hi)) | ((with_reducible refine gate_callee (f := 27) rfl ?_); refine goesL_ (some 77) rfl rfl Tryd.func27 (by kernel_rfl) rfl #[.string t187] rfl (by (try simp only [List.map_toArray, List.map_cons, List.map_nil]); first | done | rfl | (simp only [List.length_drop, List.length_take]; rfl)) ?_; (with_reducible refine (lex_Lex.calls t187 t188 t189 t190 _ ?side1 A39.out).mono ?_); (case side1 => exact envB HE.out (by repeat (first | (with_reducible first | exact HB.out | apply below_alloc | apply pw_below_drewN | apply below_drew1) | exact HB.out))); rintro e w62 ⟨v191, rfl, ho0, hb⟩; refine ⟨_, rfl, ?_⟩; have n0_ := Aside0.mk (Kd.R_lower ho0 (below_size (by repeat (first | (with_reducible first | exact HB.out | apply below_alloc | apply pw_below_drewN | apply below_drew1) | exact HB.out)))); have n1_ := Aside0.mk (below_step (by repeat (first | (with_reducible first | exact HB.out | apply below_alloc | apply pw_below_drewN | apply below_drew1) | exact HB.out)) hb); clear HB; have HO192 := n0_; have HB := n1_; clear n0_ n1_; (try clear hb); (try clear hb2); (try clear hk); (try clear hi); (try clear ho0)))
                go_ret
                exact ⟨by first | rfl | (simp [errW_none, errW_some] <;> rfl) | (simp [*, errW_none, errW_some] <;> rfl), by repeat (first | (with_reducible first | exact HB.out | apply below_alloc | apply pw_below_drewN | apply below_drew1) | exact HB.out)⟩
            · rw [if_neg c40] at H
              have c40b0 : decide (a1 < 0) = false := decide_eq_false c40
              clear c40
              by_cases c63 : t172 = true
              · subst c63
                have H1 : (if t189 = 0 then (if (t188.length : Int) = 2 then (if 0 < (t188.length : Int) then (if ((rd_T43 t188 0).f0) = 1 then (some (((rd_T43 t188 0).f2) == a1)) else (some false)) else (none)) else (some false)) else (some false)) = some r := by rw [if_pos rfl] at H; exact H
                clear H
                have H := H1
                clear H1
                by_cases c64 : t189 = 0
                · rw [if_pos c64] at H
                  have c64b0 : (t189 == 0) = true := beq_iff_eq.mpr c64
                  have c64b1 : (t189 != 0) = false := bne_eq_false_iff_eq.mpr c64
                  clear c64
                  by_cases c65 : (t188.length : Int) = 2
                  · rw [if_pos c65] at H
                    have c65b0 : ((t188.length : Int) == 2) = true := beq_iff_eq.mpr c65
                    have c65b1 : ((t188.length : Int) != 2) = false := bne_eq_false_iff_eq.mpr c65
                    clear c65
                    by_cases c66 : 0 < (t188.length : Int)
                    · rw [if_pos c66] at H
                      have c66b0 : decide (0 < (t188.length : Int)) = true := decide_eq_true c66
                      have c66b1 : decide (0 < t188.length) = true := decide_eq_true (by omega)
                      clear c66
                      by_cases c67 : ((rd_T43 t188 0).f0) = 1
                      · rw [if_pos c67] at H
                        have c67b0 : (((rd_T43 t188 0).f0) == 1) = true := beq_iff_eq.mpr c67
                        have c67b1 : (((rd_T43 t188 0).f0) != 1) = false := bne_eq_false_iff_eq.mpr c67
                        clear c67
                        obtain rfl := Option.some.inj H
                        go_wp2_with (first | ((with_reducible refine gate_callee (f := 21) rfl ?_); refine goesL_ (some 76) rfl rfl Tryd.func21 (by kernel_rfl) rfl #[.int .i64 a1] rfl (by (try simp only [List.map_toArray, List.map_cons, List.map_nil]); first | done | rfl | (simp only [List.length_drop, List.length_take]; rfl)) ?_; (with_reducible refine (text_Decimal.calls a1 t187 _ ?side1 A38.out).mono ?_); (case side1 => exact envB HE.out (by repeat (first | (with_reducible first | exact HB.out | apply below_alloc | apply pw_below_drewN | apply below_drew1) | exact HB.out))); rintro e w68 ⟨rfl, hb⟩; refine ⟨_, rfl, ?_⟩; have n0_ := Aside0.mk (below_step (by repeat (first | (with_reducible first | exact HB.out | apply below_alloc | apply pw_below_drewN | apply below_drew1) | exact HB.out)) hb); clear HB; have HB := n0_; clear n0_; (try clear hb); (try clear hb2); (try clear hk); (try clear hi)) | ((with_reducible refine gate_callee (f := 27) rfl ?_); refine goesL_ (some 77) rfl rfl Tryd.func27 (by kernel_rfl) rfl #[.string t187] rfl (by (try simp only [List.map_toArray, List.map_cons, List.map_nil]); first | done | rfl | (simp only [List.length_drop, List.length_take]; rfl)) ?_; (with_reducible refine (lex_Lex.calls t187 t188 t189 t190 _ ?side1 A39.out).mono ?_); (case side1 => exact envB HE.out (by repeat (first | (with_reducible first | exact HB.out | apply below_alloc | apply pw_below_drewN | apply below_drew1) | exact HB.out))); rintro e w69 ⟨v191, rfl, ho0, hb⟩; refine ⟨_, rfl, ?_⟩; have n0_ := Aside0.mk (Kd.R_lower ho0 (below_size (by repeat (first | (with_reducible first | exact HB.out | apply below_alloc | apply pw_below_drewN | apply below_drew1) | exact HB.out)))); have n1_ := Aside0.mk (below_step (by repeat (first | (with_reducible first | exact HB.out | apply below_alloc | apply pw_below_drewN | apply below_drew1) | exact HB.out)) hb); clear HB; have HO192 := n0_; have HB := n1_; clear n0_ n1_; (try clear hb); (try clear hb2); (try clear hk); (try clear hi); (try clear ho0); obtain ⟨Ao70, co70, eo70⟩ := Kd.R_slice HO192.out; subst eo70; have p195 : 0 ≤ (0 : Int) := (by omega); have q195 : 0 < (t188.length : Int) := of_decide_eq_true (by first | (with_reducible assumption) | assumption); obtain ⟨ad195, e195, hx195_0, hx195_1, hx195_2, hx195_3⟩ := at_T43 (Kd.R_reads' HO192.out).2.2 0 p195 q195; cases e195; have qi195 : (0 < t188.length) = True := eq_true (by omega); (try rw [show ((0 : Int)).toNat = 0 from rfl] at hx195_0); (try rw [show 0 * 4 = 0 from rfl] at hx195_0); (try rw [Addr.add_zero'] at hx195_0); (try rw [show ((0 : Int)).toNat = 0 from rfl] at hx195_1); (try rw [show 0 * 4 = 0 from rfl] at hx195_1); (try rw [Addr.add_zero'] at hx195_1); (try rw [show ((0 : Int)).toNat = 0 from rfl] at hx195_2); (try rw [show 0 * 4 = 0 from rfl] at hx195_2); (try rw [Addr.add_zero'] at hx195_2); (try rw [show ((0 : Int)).toNat = 0 from rfl] at hx195_3); (try rw [show 0 * 4 = 0 from rfl] at hx195_3); (try rw [Addr.add_zero'] at hx195_3); replace p195 := eq_true p195; replace q195 := eq_true q195; have p196 : 0 ≤ (0 : Int) := (by omega); have q196 : 0 < (t188.length : Int) := of_decide_eq_true (by first | (with_reducible assumption) | assumption); obtain ⟨ad196, e196, hx196_0, hx196_1, hx196_2, hx196_3⟩ := at_T43 (Kd.R_reads' HO192.out).2.2 0 p196 q196; obtain rfl : ad195 = ad196 := (by injection e196); have qi196 : (0 < t188.length) = True := eq_true (by omega); (try rw [show ((0 : Int)).toNat = 0 from rfl] at hx196_0); (try rw [show 0 * 4 = 0 from rfl] at hx196_0); (try rw [Addr.add_zero'] at hx196_0); (try rw [show ((0 : Int)).toNat = 0 from rfl] at hx196_1); (try rw [show 0 * 4 = 0 from rfl] at hx196_1); (try rw [Addr.add_zero'] at hx196_1); (try rw [show ((0 : Int)).toNat = 0 from rfl] at hx196_2); (try rw [show 0 * 4 = 0 from rfl] at hx196_2); (try rw [Addr.add_zero'] at hx196_2); (try rw [show ((0 : Int)).toNat = 0 from rfl] at hx196_3); (try rw [show 0 * 4 = 0 from rfl] at hx196_3); (try rw [Addr.add_zero'] at hx196_3); replace p196 := eq_true p196; replace q196 := eq_true q196))
                        go_ret
                        exact ⟨by first | rfl | (simp [errW_none, errW_some] <;> rfl) | (simp [*, errW_none, errW_some] <;> rfl), by repeat (first | (with_reducible first | exact HB.out | apply below_alloc | apply pw_below_drewN | apply below_drew1) | exact HB.out)⟩
                      · rw [if_neg c67] at H
                        have c67b0 : (((rd_T43 t188 0).f0) == 1) = false := beq_eq_false_iff_ne.mpr c67
                        have c67b1 : (((rd_T43 t188 0).f0) != 1) = true := bne_iff_ne.mpr c67
                        obtain rfl := Option.some.inj H
                        go_wp2_with (first | ((with_reducible refine gate_callee (f := 21) rfl ?_); refine goesL_ (some 76) rfl rfl Tryd.func21 (by kernel_rfl) rfl #[.int .i64 a1] rfl (by (try simp only [List.map_toArray, List.map_cons, List.map_nil]); first | done | rfl | (simp only [List.length_drop, List.length_take]; rfl)) ?_; (with_reducible refine (text_Decimal.calls a1 t187 _ ?side1 A38.out).mono ?_); (case side1 => exact envB HE.out (by repeat (first | (with_reducible first | exact HB.out | apply below_alloc | apply pw_below_drewN | apply below_drew1) | exact HB.out))); rintro e w71 ⟨rfl, hb⟩; refine ⟨_, rfl, ?_⟩; have n0_ := Aside0.mk (below_step (by repeat (first | (with_reducible first | exact HB.out | apply below_alloc | apply pw_below_drewN | apply below_drew1) | exact HB.out)) hb); clear HB; have HB := n0_; clear n0_; (try clear hb); (try clear hb2); (try clear hk); (try clear hi)) | ((with_reducible refine gate_callee (f := 27) rfl ?_); refine goesL_ (some 77) rfl rfl Tryd.func27 (by kernel_rfl) rfl #[.string t187] rfl (by (try simp only [List.map_toArray, List.map_cons, List.map_nil]); first | done | rfl | (simp only [List.length_drop, List.length_take]; rfl)) ?_; (with_reducible refine (lex_Lex.calls t187 t188 t189 t190 _ ?side1 A39.out).mono ?_); (case side1 => exact envB HE.out (by repeat (first | (with_reducible first | exact HB.out | apply below_alloc | apply pw_below_drewN | apply below_drew1) | exact HB.out))); rintro e w72 ⟨v191, rfl, ho0, hb⟩; refine ⟨_, rfl, ?_⟩; have n0_ := Aside0.mk (Kd.R_lower ho0 (below_size (by repeat (first | (with_reducible first | exact HB.out | apply below_alloc | apply pw_below_drewN | apply below_drew1) | exact HB.out)))); have n1_ := Aside0.mk (below_step (by repeat (first | (with_reducible first | exact HB.out | apply below_alloc | apply pw_below_drewN | apply below_drew1) | exact HB.out)) hb); clear HB; have HO192 := n0_; have HB := n1_; clear n0_ n1_; (try clear hb); (try clear hb2); (try clear hk); (try clear hi); (try clear ho0); obtain ⟨Ao73, co73, eo73⟩ := Kd.R_slice HO192.out; subst eo73; have p195 : 0 ≤ (0 : Int) := (by omega); have q195 : 0 < (t188.length : Int) := of_decide_eq_true (by first | (with_reducible assumption) | assumption); obtain ⟨ad195, e195, hx195_0, hx195_1, hx195_2, hx195_3⟩ := at_T43 (Kd.R_reads' HO192.out).2.2 0 p195 q195; cases e195; have qi195 : (0 < t188.length) = True := eq_true (by omega); (try rw [show ((0 : Int)).toNat = 0 from rfl] at hx195_0); (try rw [show 0 * 4 = 0 from rfl] at hx195_0); (try rw [Addr.add_zero'] at hx195_0); (try rw [show ((0 : Int)).toNat = 0 from rfl] at hx195_1); (try rw [show 0 * 4 = 0 from rfl] at hx195_1); (try rw [Addr.add_zero'] at hx195_1); (try rw [show ((0 : Int)).toNat = 0 from rfl] at hx195_2); (try rw [show 0 * 4 = 0 from rfl] at hx195_2); (try rw [Addr.add_zero'] at hx195_2); (try rw [show ((0 : Int)).toNat = 0 from rfl] at hx195_3); (try rw [show 0 * 4 = 0 from rfl] at hx195_3); (try rw [Addr.add_zero'] at hx195_3); replace p195 := eq_true p195; replace q195 := eq_true q195))
                        go_ret
                        exact ⟨by first | rfl | (simp [errW_none, errW_some] <;> rfl) | (simp [*, errW_none, errW_some] <;> rfl), by repeat (first | (with_reducible first | exact HB.out | apply below_alloc | apply pw_below_drewN | apply below_drew1) | exact HB.out)⟩
                    · rw [if_neg c66] at H
                      exact absurd H (by simp)
                  · rw [if_neg c65] at H
                    have c65b0 : ((t188.length : Int) == 2) = false := beq_eq_false_iff_ne.mpr c65
                    have c65b1 : ((t188.length : Int) != 2) = true := bne_iff_ne.mpr c65
                    obtain rfl := Option.some.inj H
                    go_wp2_with (first | ((with_reducible refine gate_callee (f := 21) rfl ?_); refine goesL_ (some 76) rfl rfl Tryd.func21 (by kernel_rfl) rfl #[.int .i64 a1] rfl (by (try simp only [List.map_toArray, List.map_cons, List.map_nil]); first | done | rfl | (simp only [List.length_drop, List.length_take]; rfl)) ?_; (with_reducible refine (text_Decimal.calls a1 t187 _ ?side1 A38.out).mono ?_); (case side1 => exact envB HE.out (by repeat (first | (with_reducible first | exact HB.out | apply below_alloc | apply pw_below_drewN | apply below_drew1) | exact HB.out))); rintro e w74 ⟨rfl, hb⟩; refine ⟨_, rfl, ?_⟩; have n0_ := Aside0.mk (below_step (by repeat (first | (with_reducible first | exact HB.out | apply below_alloc | apply pw_below_drewN | apply below_drew1) | exact HB.out)) hb); clear HB; have HB := n0_; clear n0_; (try clear hb); (try clear hb2); (try clear hk); (try clear hi)) | ((with_reducible refine gate_callee (f := 27) rfl ?_); refine goesL_ (some 77) rfl rfl Tryd.func27 (by kernel_rfl) rfl #[.string t187] rfl (by (try simp only [List.map_toArray, List.map_cons, List.map_nil]); first | done | rfl | (simp only [List.length_drop, List.length_take]; rfl)) ?_; (with_reducible refine (lex_Lex.calls t187 t188 t189 t190 _ ?side1 A39.out).mono ?_); (case side1 => exact envB HE.out (by repeat (first | (with_reducible first | exact HB.out | apply below_alloc | apply pw_below_drewN | apply below_drew1) | exact HB.out))); rintro e w75 ⟨v191, rfl, ho0, hb⟩; refine ⟨_, rfl, ?_⟩; have n0_ := Aside0.mk (Kd.R_lower ho0 (below_size (by repeat (first | (with_reducible first | exact HB.out | apply below_alloc | apply pw_below_drewN | apply below_drew1) | exact HB.out)))); have n1_ := Aside0.mk (below_step (by repeat (first | (with_reducible first | exact HB.out | apply below_alloc | apply pw_below_drewN | apply below_drew1) | exact HB.out)) hb); clear HB; have HO192 := n0_; have HB := n1_; clear n0_ n1_; (try clear hb); (try clear hb2); (try clear hk); (try clear hi); (try clear ho0); obtain ⟨Ao76, co76, eo76⟩ := Kd.R_slice HO192.out; subst eo76))
                    go_ret
                    exact ⟨by first | rfl | (simp [errW_none, errW_some] <;> rfl) | (simp [*, errW_none, errW_some] <;> rfl), by repeat (first | (with_reducible first | exact HB.out | apply below_alloc | apply pw_below_drewN | apply below_drew1) | exact HB.out)⟩
                · rw [if_neg c64] at H
                  have c64b0 : (t189 == 0) = false := beq_eq_false_iff_ne.mpr c64
                  have c64b1 : (t189 != 0) = true := bne_iff_ne.mpr c64
                  obtain rfl := Option.some.inj H
                  go_wp2_with (first | ((with_reducible refine gate_callee (f := 21) rfl ?_); refine goesL_ (some 76) rfl rfl Tryd.func21 (by kernel_rfl) rfl #[.int .i64 a1] rfl (by (try simp only [List.map_toArray, List.map_cons, List.map_nil]); first | done | rfl | (simp only [List.length_drop, List.length_take]; rfl)) ?_; (with_reducible refine (text_Decimal.calls a1 t187 _ ?side1 A38.out).mono ?_); (case side1 => exact envB HE.out (by repeat (first | (with_reducible first | exact HB.out | apply below_alloc | apply pw_below_drewN | apply below_drew1) | exact HB.out))); rintro e w77 ⟨rfl, hb⟩; refine ⟨_, rfl, ?_⟩; have n0_ := Aside0.mk (below_step (by repeat (first | (with_reducible first | exact HB.out | apply below_alloc | apply pw_below_drewN | apply below_drew1) | exact HB.out)) hb); clear HB; have HB := n0_; clear n0_; (try clear hb); (try clear hb2); (try clear hk); (try clear hi)) | ((with_reducible refine gate_callee (f := 27) rfl ?_); refine goesL_ (some 77) rfl rfl Tryd.func27 (by kernel_rfl) rfl #[.string t187] rfl (by (try simp only [List.map_toArray, List.map_cons, List.map_nil]); first | done | rfl | (simp only [List.length_drop, List.length_take]; rfl)) ?_; (with_reducible refine (lex_Lex.calls t187 t188 t189 t190 _ ?side1 A39.out).mono ?_); (case side1 => exact envB HE.out (by repeat (first | (with_reducible first | exact HB.out | apply below_alloc | apply pw_below_drewN | apply below_drew1) | exact HB.out))); rintro e w78 ⟨v191, rfl, ho0, hb⟩; refine ⟨_, rfl, ?_⟩; have n0_ := Aside0.mk (Kd.R_lower ho0 (below_size (by repeat (first | (with_reducible first | exact HB.out | apply below_alloc | apply pw_below_drewN | apply below_drew1) | exact HB.out)))); have n1_ := Aside0.mk (below_step (by repeat (first | (with_reducible first | exact HB.out | apply below_alloc | apply pw_below_drewN | apply below_drew1) | exact HB.out)) hb); clear HB; have HO192 := n0_; have HB := n1_; clear n0_ n1_; (try clear hb); (try clear hb2); (try clear hk); (try clear hi); (try clear ho0)))
                  go_ret
                  exact ⟨by first | rfl | (simp [errW_none, errW_some] <;> rfl) | (simp [*, errW_none, errW_some] <;> rfl), by repeat (first | (with_reducible first | exact HB.out | apply below_alloc | apply pw_below_drewN | apply below_drew1) | exact HB.out)⟩
              · replace c63 := Bool.eq_false_iff.mpr c63
                subst c63
                have H1 : (some false) = some r := by rw [if_neg (show ¬ (false = true) by decide)] at H; exact H
                clear H
                have H := H1
                clear H1
                obtain rfl := Option.some.inj H
                go_wp2_with (first | ((with_reducible refine gate_callee (f := 21) rfl ?_); refine goesL_ (some 76) rfl rfl Tryd.func21 (by kernel_rfl) rfl #[.int .i64 a1] rfl (by (try simp only [List.map_toArray, List.map_cons, List.map_nil]); first | done | rfl | (simp only [List.length_drop, List.length_take]; rfl)) ?_; (with_reducible refine (text_Decimal.calls a1 t187 _ ?side1 A38.out).mono ?_); (case side1 => exact envB HE.out (by repeat (first | (with_reducible first | exact HB.out | apply below_alloc | apply pw_below_drewN | apply below_drew1) | exact HB.out))); rintro e w79 ⟨rfl, hb⟩; refine ⟨_, rfl, ?_⟩; have n0_ := Aside0.mk (below_step (by repeat (first | (with_reducible first | exact HB.out | apply below_alloc | apply pw_below_drewN | apply below_drew1) | exact HB.out)) hb); clear HB; have HB := n0_; clear n0_; (try clear hb); (try clear hb2); (try clear hk); (try clear hi)) | ((with_reducible refine gate_callee (f := 27) rfl ?_); refine goesL_ (some 77) rfl rfl Tryd.func27 (by kernel_rfl) rfl #[.string t187] rfl (by (try simp only [List.map_toArray, List.map_cons, List.map_nil]); first | done | rfl | (simp only [List.length_drop, List.length_take]; rfl)) ?_; (with_reducible refine (lex_Lex.calls t187 t188 t189 t190 _ ?side1 A39.out).mono ?_); (case side1 => exact envB HE.out (by repeat (first | (with_reducible first | exact HB.out | apply below_alloc | apply pw_below_drewN | apply below_drew1) | exact HB.out))); rintro e w80 ⟨v191, rfl, ho0, hb⟩; refine ⟨_, rfl, ?_⟩; have n0_ := Aside0.mk (Kd.R_lower ho0 (below_size (by repeat (first | (with_reducible first | exact HB.out | apply below_alloc | apply pw_below_drewN | apply below_drew1) | exact HB.out)))); have n1_ := Aside0.mk (below_step (by repeat (first | (with_reducible first | exact HB.out | apply below_alloc | apply pw_below_drewN | apply below_drew1) | exact HB.out)) hb); clear HB; have HO192 := n0_; have HB := n1_; clear n0_ n1_; (try clear hb); (try clear hb2); (try clear hk); (try clear hi); (try clear ho0)))
                go_ret
                exact ⟨by first | rfl | (simp [errW_none, errW_some] <;> rfl) | (simp [*, errW_none, errW_some] <;> rfl), by repeat (first | (with_reducible first | exact HB.out | apply below_alloc | apply pw_below_drewN | apply below_drew1) | exact HB.out)⟩

end Go.Proofs.YtfefbnfmngdicaaDoor.PX
