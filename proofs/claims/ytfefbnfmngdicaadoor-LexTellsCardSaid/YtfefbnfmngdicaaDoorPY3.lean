-- Written by a program of this session (wip/tools): the kit's printer, turned to take contracts that were proved by hand.
import Derived.Test.YtfefbnfmngdicaaDoorPX0
import Derived.Test.YtfefbnfmngdicaaDoorE5
import Derived.Test.YtfefbnfmngdicaaDoorEnv
namespace Go.Proofs.YtfefbnfmngdicaaDoor.PX
open Go.RowKit Go.Proofs.YtfefbnfmngdicaaDoorW.PrintWords Go.Proofs.YtfefbnfmngdicaaDoorW.PrintLast Go.Proofs.YtfefbnfmngdicaaDoorW.PrintMore
attribute [local go_sem] max2_int min2_int max_two min_two max_three min_three max_four min_four   -- for this text's walks alone
set_option linter.unusedVariables false
set_option linter.unusedSimpArgs false

theorem eqA43 (d : Nat) (w : World) (x0 y0 : Int) (x1 y1 : ByteArray) (x2 y2 : Int) (x3 y3 : Int) :
    (Op.equalIn (d + 2) 43 (.agg #[.int .i64 x0, .string x1, .int .i64 x2, .int .i64 x3]) (.agg #[.int .i64 y0, .string y1, .int .i64 y2, .int .i64 y3])).run Tryd.prog w = .ok (x0 == y0 && (x1.toList == y1.toList && (x2 == y2 && (x3 == y3)))) w := by
  refine eqA_of Tryd.underlying43 (by kernel_rfl) ?_
  refine eqf_cons (by rfl) (by go_simp; rfl) (by go_simp; rfl) (by go_simp) ?_
  refine eqf_cons (by rfl) (by go_simp; rfl) (by go_simp; rfl) (by go_simp) ?_
  refine eqf_cons (by rfl) (by go_simp; rfl) (by go_simp; rfl) (by go_simp) ?_
  exact eqf_last (by rfl) (by go_simp; rfl) (by go_simp; rfl) (by go_simp)
end Go.Proofs.YtfefbnfmngdicaaDoor.PX

-- Written by a program of this session (wip/tools): the kit's printer, turned to take contracts that were proved by hand.
namespace Go.Proofs.YtfefbnfmngdicaaDoor.PX
open Go.RowKit Go.Proofs.YtfefbnfmngdicaaDoorW.PrintWords Go.Proofs.YtfefbnfmngdicaaDoorW.PrintLast Go.Proofs.YtfefbnfmngdicaaDoorW.PrintMore
attribute [local go_sem] max2_int min2_int max_two min_two max_three min_three max_four min_four   -- for this text's walks alone
set_option linter.unusedVariables false
set_option linter.unusedSimpArgs false

/-! ### erratalaw17_bad: function 57 -/
def erratalaw17_bad.f (a0 : ByteArray) : Option (Bool) := (lex_Lex.f a0).bind fun bt101 => (if bt101.2.1 = 11 then (if bt101.2.2 = 1 then (some ((bt101.1.length : Int) == 0)) else (some false)) else (some false))
set_option maxHeartbeats 8000000 in
set_option maxRecDepth 100000 in
theorem erratalaw17_bad.calls (a0 : ByteArray) (r : Bool) (w : World) (hE : Env w) (h : erratalaw17_bad.f a0 = some r) :
    Calls Tryd.prog 57 #[.string a0] w fun e w' => e = .returned (.bool r) ∧ Below w.heap.size w w' := by
  have HB := Aside0.mk (Below.refl w.heap.size w)
  have HE := Aside0.mk hE
  clear hE
  have H : ((lex_Lex.f a0).bind fun bt101 => (if bt101.2.1 = 11 then (if bt101.2.2 = 1 then (some ((bt101.1.length : Int) == 0)) else (some false)) else (some false))) = some r := h
  clear h
  replace H := Option.bind_eq_some_iff.mp H
  obtain ⟨⟨t101, t102, t103⟩, A20, H⟩ := H
  replace H : (if t102 = 11 then (if t103 = 1 then (some ((t101.length : Int) == 0)) else (some false)) else (some false)) = some r := H
  have A2 := Aside0.mk A20
  clear A20
  by_cases c3 : t102 = 11
  · rw [if_pos c3] at H
    have c3b0 : (t102 == 11) = true := beq_iff_eq.mpr c3
    have c3b1 : (t102 != 11) = false := bne_eq_false_iff_eq.mpr c3
    clear c3
    by_cases c4 : t103 = 1
    · rw [if_pos c4] at H
      have c4b0 : (t103 == 1) = true := beq_iff_eq.mpr c4
      have c4b1 : (t103 != 1) = false := bne_eq_false_iff_eq.mpr c4
      clear c4
      obtain rfl := Option.some.inj H
      go_enter Tryd.func57, Tryd.ntmps57
      go_wp2_with (first | ((with_reducible refine gate_callee (f := 27) rfl ?_); refine goesL_ (some 8) rfl rfl Tryd.func27 (by kernel_rfl) rfl #[.string a0] rfl (by (try simp only [List.map_toArray, List.map_cons, List.map_nil]); first | done | rfl | (simp only [List.length_drop, List.length_take]; rfl)) ?_; (with_reducible refine (lex_Lex.calls a0 t101 t102 t103 _ ?side1 A2.out).mono ?_); (case side1 => exact envB HE.out (by repeat (first | (with_reducible first | exact HB.out | apply below_alloc | apply pw_below_drewN | apply below_drew1) | exact HB.out))); rintro e w5 ⟨v104, rfl, ho0, hb⟩; refine ⟨_, rfl, ?_⟩; have n0_ := Aside0.mk (Kd.R_lower ho0 (below_size (by repeat (first | (with_reducible first | exact HB.out | apply below_alloc | apply pw_below_drewN | apply below_drew1) | exact HB.out)))); have n1_ := Aside0.mk (below_step (by repeat (first | (with_reducible first | exact HB.out | apply below_alloc | apply pw_below_drewN | apply below_drew1) | exact HB.out)) hb); clear HB; have HO105 := n0_; have HB := n1_; clear n0_ n1_; (try clear hb); (try clear hb2); (try clear hk); (try clear hi); (try clear ho0); obtain ⟨Ao6, co6, eo6⟩ := Kd.R_slice HO105.out; subst eo6))
      go_ret
      exact ⟨by first | rfl | (simp [errW_none, errW_some] <;> rfl) | (simp [*, errW_none, errW_some] <;> rfl), by repeat (first | (with_reducible first | exact HB.out | apply below_alloc | apply pw_below_drewN | apply below_drew1) | exact HB.out)⟩
    · rw [if_neg c4] at H
      have c4b0 : (t103 == 1) = false := beq_eq_false_iff_ne.mpr c4
      have c4b1 : (t103 != 1) = true := bne_iff_ne.mpr c4
      obtain rfl := Option.some.inj H
      go_enter Tryd.func57, Tryd.ntmps57
      go_wp2_with (first | ((with_reducible refine gate_callee (f := 27) rfl ?_); refine goesL_ (some 8) rfl rfl Tryd.func27 (by kernel_rfl) rfl #[.string a0] rfl (by (try simp only [List.map_toArray, List.map_cons, List.map_nil]); first | done | rfl | (simp only [List.length_drop, List.length_take]; rfl)) ?_; (with_reducible refine (lex_Lex.calls a0 t101 t102 t103 _ ?side1 A2.out).mono ?_); (case side1 => exact envB HE.out (by repeat (first | (with_reducible first | exact HB.out | apply below_alloc | apply pw_below_drewN | apply below_drew1) | exact HB.out))); rintro e w7 ⟨v104, rfl, ho0, hb⟩; refine ⟨_, rfl, ?_⟩; have n0_ := Aside0.mk (Kd.R_lower ho0 (below_size (by repeat (first | (with_reducible first | exact HB.out | apply below_alloc | apply pw_below_drewN | apply below_drew1) | exact HB.out)))); have n1_ := Aside0.mk (below_step (by repeat (first | (with_reducible first | exact HB.out | apply below_alloc | apply pw_below_drewN | apply below_drew1) | exact HB.out)) hb); clear HB; have HO105 := n0_; have HB := n1_; clear n0_ n1_; (try clear hb); (try clear hb2); (try clear hk); (try clear hi); (try clear ho0)))
      go_ret
      exact ⟨by first | rfl | (simp [errW_none, errW_some] <;> rfl) | (simp [*, errW_none, errW_some] <;> rfl), by repeat (first | (with_reducible first | exact HB.out | apply below_alloc | apply pw_below_drewN | apply below_drew1) | exact HB.out)⟩
  · rw [if_neg c3] at H
    have c3b0 : (t102 == 11) = false := beq_eq_false_iff_ne.mpr c3
    have c3b1 : (t102 != 11) = true := bne_iff_ne.mpr c3
    obtain rfl := Option.some.inj H
    go_enter Tryd.func57, Tryd.ntmps57
    go_wp2_with (first | ((with_reducible refine gate_callee (f := 27) rfl ?_); refine goesL_ (some 8) rfl rfl Tryd.func27 (by kernel_rfl) rfl #[.string a0] rfl (by (try simp only [List.map_toArray, List.map_cons, List.map_nil]); first | done | rfl | (simp only [List.length_drop, List.length_take]; rfl)) ?_; (with_reducible refine (lex_Lex.calls a0 t101 t102 t103 _ ?side1 A2.out).mono ?_); (case side1 => exact envB HE.out (by repeat (first | (with_reducible first | exact HB.out | apply below_alloc | apply pw_below_drewN | apply below_drew1) | exact HB.out))); rintro e w8 ⟨v104, rfl, ho0, hb⟩; refine ⟨_, rfl, ?_⟩; have n0_ := Aside0.mk (Kd.R_lower ho0 (below_size (by repeat (first | (with_reducible first | exact HB.out | apply below_alloc | apply pw_below_drewN | apply below_drew1) | exact HB.out)))); have n1_ := Aside0.mk (below_step (by repeat (first | (with_reducible first | exact HB.out | apply below_alloc | apply pw_below_drewN | apply below_drew1) | exact HB.out)) hb); clear HB; have HO105 := n0_; have HB := n1_; clear n0_ n1_; (try clear hb); (try clear hb2); (try clear hk); (try clear hi); (try clear ho0)))
    go_ret
    exact ⟨by first | rfl | (simp [errW_none, errW_some] <;> rfl) | (simp [*, errW_none, errW_some] <;> rfl), by repeat (first | (with_reducible first | exact HB.out | apply below_alloc | apply pw_below_drewN | apply below_drew1) | exact HB.out)⟩

end Go.Proofs.YtfefbnfmngdicaaDoor.PX

-- Written by a program of this session (wip/tools): the kit's printer, turned to take contracts that were proved by hand.
namespace Go.Proofs.YtfefbnfmngdicaaDoor.PX
open Go.RowKit Go.Proofs.YtfefbnfmngdicaaDoorW.PrintWords Go.Proofs.YtfefbnfmngdicaaDoorW.PrintLast Go.Proofs.YtfefbnfmngdicaaDoorW.PrintMore
attribute [local go_sem] max2_int min2_int max_two min_two max_three min_three max_four min_four   -- for this text's walks alone
set_option linter.unusedVariables false
set_option linter.unusedSimpArgs false

/-! ### erratalaw17_small: function 26 -/
mutual
def erratalaw17_small.j0 : Nat → List (S43) → List (S43) → Bool → Option (Bool)
  | 0, _, _, _ => none
  | k + 1, x1, x4, x33 => if x33 = true then (some false) else (if 0 < (x1.length : Int) then (if ((rd_T43 x1 0).f1).toList = ([97] : List UInt8) then (if 1 < (x1.length : Int) then (if ((rd_T43 x1 1).f1).toList = ([62, 61] : List UInt8) then (if 2 < (x1.length : Int) then (if ((rd_T43 x1 2).f2) = 12 then (if 3 < (x1.length : Int) then (if ((rd_T43 x1 3).f0) = 5 then (if 1 < (x4.length : Int) then (if ((rd_T43 x4 1).f1).toList = ([43, 43] : List UInt8) then (if 2 < (x4.length : Int) then (if ((rd_T43 x4 2).f0) = 2 then (erratalaw17_small.j1 k (((rd_T43 x4 2).f1).toList == ([97, 34, 98] : List UInt8))) else (erratalaw17_small.j1 k false)) else (none)) else (erratalaw17_small.j1 k false)) else (none)) else (erratalaw17_small.j1 k false)) else (none)) else (erratalaw17_small.j1 k false)) else (none)) else (erratalaw17_small.j1 k false)) else (none)) else (erratalaw17_small.j1 k false)) else (none))
def erratalaw17_small.j1 : Nat → Bool → Option (Bool)
  | 0, _ => none
  | k + 1, x7 => if x7 = true then ((erratalaw17_bad.f (⟨#[48, 49]⟩ : ByteArray)).bind fun t123 => (if t123 = true then ((erratalaw17_bad.f (⟨#[49, 97]⟩ : ByteArray)).bind fun t124 => (if t124 = true then ((erratalaw17_bad.f (⟨#[33]⟩ : ByteArray)).bind fun t125 => (if t125 = true then ((erratalaw17_bad.f (⟨#[34, 97]⟩ : ByteArray)).bind fun t126 => (some t126)) else (some false))) else (some false))) else (some false))) else (some false)
end
def erratalaw17_small.f (k : Nat)  : Option (Bool) := (lex_Lex.f (⟨#[97, 62, 61, 49, 50, 32, 35, 32, 99]⟩ : ByteArray)).bind fun bt106 => ((lex_Lex.f (⟨#[120, 32, 43, 43, 32, 34, 97, 92, 34, 98, 34]⟩ : ByteArray)).bind fun bt111 => (if bt106.2.1 = 0 then (if bt111.2.1 = 0 then (if (bt106.1.length : Int) = 4 then (erratalaw17_small.j0 k bt106.1 bt111.1 ((bt111.1.length : Int) != 4)) else (erratalaw17_small.j0 k bt106.1 bt111.1 true)) else (erratalaw17_small.j0 k bt106.1 bt111.1 true)) else (erratalaw17_small.j0 k bt106.1 bt111.1 true)))
theorem erratalaw17_small.mono_l : ∀ k, (∀ y0 y1 y2, LeO (erratalaw17_small.j0 k y0 y1 y2) (erratalaw17_small.j0 (k + 1) y0 y1 y2)) ∧ (∀ y0, LeO (erratalaw17_small.j1 k y0) (erratalaw17_small.j1 (k + 1) y0))
  | 0 => ⟨fun _ _ _ r h => by simp [erratalaw17_small.j0] at h, fun _ r h => by simp [erratalaw17_small.j1] at h⟩
  | k + 1 => by
    obtain ⟨ih0, ih1⟩ := erratalaw17_small.mono_l k
    refine ⟨?_, ?_⟩
    · intro y0 y1 y2
      unfold erratalaw17_small.j0
      repeat' first
      | (with_reducible exact ih0 _ _ _)
      | (with_reducible exact ih1 _)
      | (with_reducible exact LeO.refl _)
      | (with_reducible exact LeO.none _)
      | (with_reducible refine LeO.ite ?_ ?_)
      | (with_reducible refine LeO.bind ?_ (fun _ => ?_))
      | exact ih0 _ _ _
      | exact ih1 _
      | exact LeO.none _
      | refine LeO.ite ?_ ?_
      | refine LeO.bind ?_ (fun _ => ?_)
    · intro y0
      unfold erratalaw17_small.j1
      repeat' first
      | (with_reducible exact ih0 _ _ _)
      | (with_reducible exact ih1 _)
      | (with_reducible exact LeO.refl _)
      | (with_reducible exact LeO.none _)
      | (with_reducible refine LeO.ite ?_ ?_)
      | (with_reducible refine LeO.bind ?_ (fun _ => ?_))
      | exact ih0 _ _ _
      | exact ih1 _
      | exact LeO.none _
      | refine LeO.ite ?_ ?_
      | refine LeO.bind ?_ (fun _ => ?_)
theorem erratalaw17_small.mono : ∀ k, LeO (erratalaw17_small.f k ) (erratalaw17_small.f (k + 1) ) := by
  intro  k
  obtain ⟨ih0, ih1⟩ := erratalaw17_small.mono_l k
  unfold erratalaw17_small.f
  repeat' first
      | (with_reducible exact ih0 _ _ _)
      | (with_reducible exact ih1 _)
      | (with_reducible exact LeO.refl _)
      | (with_reducible exact LeO.none _)
      | (with_reducible refine LeO.ite ?_ ?_)
      | (with_reducible refine LeO.bind ?_ (fun _ => ?_))
      | exact ih0 _ _ _
      | exact ih1 _
      | exact LeO.none _
      | refine LeO.ite ?_ ?_
      | refine LeO.bind ?_ (fun _ => ?_)
set_option maxHeartbeats 8000000 in
set_option maxRecDepth 100000 in
theorem erratalaw17_small.calls (k : Nat)  (r : Bool) (w : World) (hE : Env w) (h : erratalaw17_small.f k  = some r) :
    Calls Tryd.prog 26 #[] w fun e w' => e = .returned (.bool r) ∧ Below w.heap.size w w' := by
  have HB := Aside0.mk (Below.refl w.heap.size w)
  have HE := Aside0.mk hE
  clear hE
  have H : ((lex_Lex.f (⟨#[97, 62, 61, 49, 50, 32, 35, 32, 99]⟩ : ByteArray)).bind fun bt106 => ((lex_Lex.f (⟨#[120, 32, 43, 43, 32, 34, 97, 92, 34, 98, 34]⟩ : ByteArray)).bind fun bt111 => (if bt106.2.1 = 0 then (if bt111.2.1 = 0 then (if (bt106.1.length : Int) = 4 then (erratalaw17_small.j0 k bt106.1 bt111.1 ((bt111.1.length : Int) != 4)) else (erratalaw17_small.j0 k bt106.1 bt111.1 true)) else (erratalaw17_small.j0 k bt106.1 bt111.1 true)) else (erratalaw17_small.j0 k bt106.1 bt111.1 true)))) = some r := h
  clear h
  replace H := Option.bind_eq_some_iff.mp H
  obtain ⟨⟨t106, t107, t108⟩, A10, H⟩ := H
  replace H : ((lex_Lex.f (⟨#[120, 32, 43, 43, 32, 34, 97, 92, 34, 98, 34]⟩ : ByteArray)).bind fun bt111 => (if t107 = 0 then (if bt111.2.1 = 0 then (if (t106.length : Int) = 4 then (erratalaw17_small.j0 k t106 bt111.1 ((bt111.1.length : Int) != 4)) else (erratalaw17_small.j0 k t106 bt111.1 true)) else (erratalaw17_small.j0 k t106 bt111.1 true)) else (erratalaw17_small.j0 k t106 bt111.1 true))) = some r := H
  have A1 := Aside0.mk A10
  clear A10
  replace H := Option.bind_eq_some_iff.mp H
  obtain ⟨⟨t111, t112, t113⟩, A20, H⟩ := H
  replace H : (if t107 = 0 then (if t112 = 0 then (if (t106.length : Int) = 4 then (erratalaw17_small.j0 k t106 t111 ((t111.length : Int) != 4)) else (erratalaw17_small.j0 k t106 t111 true)) else (erratalaw17_small.j0 k t106 t111 true)) else (erratalaw17_small.j0 k t106 t111 true)) = some r := H
  have A2 := Aside0.mk A20
  clear A20
  have HC3 := Aside0.mk H
  clear H
  go_enter Tryd.func26, Tryd.ntmps26
  go_upto_region 3 with (first | ((with_reducible refine gate_callee (f := 27) rfl ?_); refine goesL_ (some 9) rfl rfl Tryd.func27 (by kernel_rfl) rfl #[.string (⟨#[97, 62, 61, 49, 50, 32, 35, 32, 99]⟩ : ByteArray)] rfl (by (try simp only [List.map_toArray, List.map_cons, List.map_nil]); first | done | rfl | (simp only [List.length_drop, List.length_take]; rfl)) ?_; (with_reducible refine (lex_Lex.calls (⟨#[97, 62, 61, 49, 50, 32, 35, 32, 99]⟩ : ByteArray) t106 t107 t108 _ ?side1 A1.out).mono ?_); (case side1 => exact envB HE.out (by repeat (first | (with_reducible first | exact HB.out | apply below_alloc | apply pw_below_drewN | apply below_drew1) | exact HB.out))); rintro e w4 ⟨v109, rfl, ho0, hb⟩; refine ⟨_, rfl, ?_⟩; have n0_ := Aside0.mk (Kd.R_lower ho0 (below_size (by repeat (first | (with_reducible first | exact HB.out | apply below_alloc | apply pw_below_drewN | apply below_drew1) | exact HB.out)))); have n1_ := Aside0.mk (below_step (by repeat (first | (with_reducible first | exact HB.out | apply below_alloc | apply pw_below_drewN | apply below_drew1) | exact HB.out)) hb); clear HB; have HO110 := n0_; have HB := n1_; clear n0_ n1_; (try clear hb); (try clear hb2); (try clear hk); (try clear hi); (try clear ho0)) | ((with_reducible refine gate_callee (f := 27) rfl ?_); refine goesL_ (some 14) rfl rfl Tryd.func27 (by kernel_rfl) rfl #[.string (⟨#[120, 32, 43, 43, 32, 34, 97, 92, 34, 98, 34]⟩ : ByteArray)] rfl (by (try simp only [List.map_toArray, List.map_cons, List.map_nil]); first | done | rfl | (simp only [List.length_drop, List.length_take]; rfl)) ?_; (with_reducible refine (lex_Lex.calls (⟨#[120, 32, 43, 43, 32, 34, 97, 92, 34, 98, 34]⟩ : ByteArray) t111 t112 t113 _ ?side1 A2.out).mono ?_); (case side1 => exact envB HE.out (by repeat (first | (with_reducible first | exact HB.out | apply below_alloc | apply pw_below_drewN | apply below_drew1) | exact HB.out))); rintro e w5 ⟨v114, rfl, ho0, hb⟩; refine ⟨_, rfl, ?_⟩; have n0_ := Aside0.mk (Kd.R_elder' (by (with_reducible repeat (first | apply Kd.R_alloc | apply Kd.R_drewN | apply Kd.R_drew)); exact HO110.out) (Kd.R_base ho0) hb); have n1_ := Aside0.mk (Kd.R_lower (Kd.R_new' ho0 (Kd.R_lt (by (with_reducible repeat (first | apply Kd.R_alloc | apply Kd.R_drewN | apply Kd.R_drew)); exact HO110.out))) (below_size (by repeat (first | (with_reducible first | exact HB.out | apply below_alloc | apply pw_below_drewN | apply below_drew1) | exact HB.out)))); have n2_ := Aside0.mk (below_step (by repeat (first | (with_reducible first | exact HB.out | apply below_alloc | apply pw_below_drewN | apply below_drew1) | exact HB.out)) hb); clear HO110; clear HB; have HO110 := n0_; have HO115 := n1_; have HB := n2_; clear n0_ n1_ n2_; (try clear hb); (try clear hb2); (try clear hk); (try clear hi); (try clear ho0)))
  (try simp only [Act.put, List.setIfInBounds_toArray, List.set_cons_zero, List.set_cons_succ])
  go_cut [33] (fun v33 wc => ∃ (kq : Nat) (x33_2 : Bool), v33 = .bool x33_2 ∧ Aside0 (erratalaw17_small.j0 kq t106 t111 x33_2 = some r) ∧ Aside0 (kq ≤ k) ∧ Aside0 (Kd.R k43 43 wc w.heap.size (fun k_ => some k_ ≠ (v114 : Value).ownBlock) v109 t106) ∧ Aside0 (Kd.R k43 43 wc w.heap.size (fun k_ => some k_ ≠ (v109 : Value).ownBlock) v114 t111) ∧ Aside0 (Below w.heap.size w wc))
  case first =>
    have H := HC3.out
    clear HC3
    by_cases c6 : t107 = 0
    · rw [if_pos c6] at H
      have c6b0 : (t107 == 0) = true := beq_iff_eq.mpr c6
      have c6b1 : (t107 != 0) = false := bne_eq_false_iff_eq.mpr c6
      clear c6
      (first | rw [c6b0] | (simp only [i64_w, i32_w]; rw [c6b0]) | skip)
      by_cases c7 : t112 = 0
      · rw [if_pos c7] at H
        have c7b0 : (t112 == 0) = true := beq_iff_eq.mpr c7
        have c7b1 : (t112 != 0) = false := bne_eq_false_iff_eq.mpr c7
        clear c7
        by_cases c8 : (t106.length : Int) = 4
        · rw [if_pos c8] at H
          have c8b0 : ((t106.length : Int) == 4) = true := beq_iff_eq.mpr c8
          have c8b1 : ((t106.length : Int) != 4) = false := bne_eq_false_iff_eq.mpr c8
          clear c8
          have H' := Aside0.mk H
          clear H
          obtain ⟨Ao9, co9, eo9⟩ := Kd.R_slice HO110.out
          subst eo9
          obtain ⟨Ao10, co10, eo10⟩ := Kd.R_slice HO115.out
          subst eo10
          go_wp2
          go_meet
          case rel => exact ⟨_, (((t111.length : Int) != 4)), (by first | rfl | (simp; done) | (simp [*]; done)), H', ⟨by first | omega | exact Nat.le_refl _⟩, ⟨by (with_reducible repeat (first | apply Kd.R_alloc | apply Kd.R_drewN | apply Kd.R_drew)); exact Kd.R_mono HO110.out (fun _ hk => hk.2)⟩, ⟨by (with_reducible repeat (first | apply Kd.R_alloc | apply Kd.R_drewN | apply Kd.R_drew)); exact Kd.R_mono HO115.out (fun _ hk => hk.2)⟩, ⟨by repeat (first | (with_reducible first | exact HB.out | apply below_alloc | apply pw_below_drewN | apply below_drew1) | exact HB.out)⟩⟩
        · rw [if_neg c8] at H
          have c8b0 : ((t106.length : Int) == 4) = false := beq_eq_false_iff_ne.mpr c8
          have c8b1 : ((t106.length : Int) != 4) = true := bne_iff_ne.mpr c8
          have H' := Aside0.mk H
          clear H
          obtain ⟨Ao11, co11, eo11⟩ := Kd.R_slice HO110.out
          subst eo11
          go_wp2
          go_meet
          case rel => exact ⟨_, (true), (by first | rfl | (simp; done) | (simp [*]; done)), H', ⟨by first | omega | exact Nat.le_refl _⟩, ⟨by (with_reducible repeat (first | apply Kd.R_alloc | apply Kd.R_drewN | apply Kd.R_drew)); exact Kd.R_mono HO110.out (fun _ hk => hk.2)⟩, ⟨by (with_reducible repeat (first | apply Kd.R_alloc | apply Kd.R_drewN | apply Kd.R_drew)); exact Kd.R_mono HO115.out (fun _ hk => hk.2)⟩, ⟨by repeat (first | (with_reducible first | exact HB.out | apply below_alloc | apply pw_below_drewN | apply below_drew1) | exact HB.out)⟩⟩
      · rw [if_neg c7] at H
        have c7b0 : (t112 == 0) = false := beq_eq_false_iff_ne.mpr c7
        have c7b1 : (t112 != 0) = true := bne_iff_ne.mpr c7
        have H' := Aside0.mk H
        clear H
        go_wp2
        go_meet
        case rel => exact ⟨_, (true), (by first | rfl | (simp; done) | (simp [*]; done)), H', ⟨by first | omega | exact Nat.le_refl _⟩, ⟨by (with_reducible repeat (first | apply Kd.R_alloc | apply Kd.R_drewN | apply Kd.R_drew)); exact Kd.R_mono HO110.out (fun _ hk => hk.2)⟩, ⟨by (with_reducible repeat (first | apply Kd.R_alloc | apply Kd.R_drewN | apply Kd.R_drew)); exact Kd.R_mono HO115.out (fun _ hk => hk.2)⟩, ⟨by repeat (first | (with_reducible first | exact HB.out | apply below_alloc | apply pw_below_drewN | apply below_drew1) | exact HB.out)⟩⟩
    · rw [if_neg c6] at H
      have c6b0 : (t107 == 0) = false := beq_eq_false_iff_ne.mpr c6
      have c6b1 : (t107 != 0) = true := bne_iff_ne.mpr c6
      (first | rw [c6b0] | (simp only [i64_w, i32_w]; rw [c6b0]) | skip)
      have H' := Aside0.mk H
      clear H
      go_wp2
      go_meet
      case rel => exact ⟨_, (true), (by first | rfl | (simp; done) | (simp [*]; done)), H', ⟨by first | omega | exact Nat.le_refl _⟩, ⟨by (with_reducible repeat (first | apply Kd.R_alloc | apply Kd.R_drewN | apply Kd.R_drew)); exact Kd.R_mono HO110.out (fun _ hk => hk.2)⟩, ⟨by (with_reducible repeat (first | apply Kd.R_alloc | apply Kd.R_drewN | apply Kd.R_drew)); exact Kd.R_mono HO115.out (fun _ hk => hk.2)⟩, ⟨by repeat (first | (with_reducible first | exact HB.out | apply below_alloc | apply pw_below_drewN | apply below_drew1) | exact HB.out)⟩⟩
  case rest =>
    clear HC3
    try clear c2
    try clear p2
    try clear c6
    try clear c6b0
    try clear c6b1
    try clear c7
    try clear c7b0
    try clear c7b1
    try clear c8
    try clear c8b0
    try clear c8b1
    obtain ⟨kq, x33_2, rfl, HA, HJ2, HO_1, HO_4, HB⟩ := hcut
    cases kq with
    | zero => exact absurd HA.out (by simp [erratalaw17_small.j0])
    | succ kj2 =>
      have H := HA.out
      clear HA
      simp only [erratalaw17_small.j0] at H
      by_cases c12 : x33_2 = true
      · subst c12
        have H1 : (some false) = some r := by rw [if_pos rfl] at H; exact H
        clear H
        have H := H1
        clear H1
        obtain rfl := Option.some.inj H
        go_wp2
        go_ret
        exact ⟨by first | rfl | (simp [errW_none, errW_some] <;> rfl) | (simp [*, errW_none, errW_some] <;> rfl), by repeat (first | (with_reducible first | exact HB.out | apply below_alloc | apply pw_below_drewN | apply below_drew1) | exact HB.out)⟩
      · replace c12 := Bool.eq_false_iff.mpr c12
        subst c12
        have H1 : (if 0 < (t106.length : Int) then (if ((rd_T43 t106 0).f1).toList = ([97] : List UInt8) then (if 1 < (t106.length : Int) then (if ((rd_T43 t106 1).f1).toList = ([62, 61] : List UInt8) then (if 2 < (t106.length : Int) then (if ((rd_T43 t106 2).f2) = 12 then (if 3 < (t106.length : Int) then (if ((rd_T43 t106 3).f0) = 5 then (if 1 < (t111.length : Int) then (if ((rd_T43 t111 1).f1).toList = ([43, 43] : List UInt8) then (if 2 < (t111.length : Int) then (if ((rd_T43 t111 2).f0) = 2 then (erratalaw17_small.j1 kj2 (((rd_T43 t111 2).f1).toList == ([97, 34, 98] : List UInt8))) else (erratalaw17_small.j1 kj2 false)) else (none)) else (erratalaw17_small.j1 kj2 false)) else (none)) else (erratalaw17_small.j1 kj2 false)) else (none)) else (erratalaw17_small.j1 kj2 false)) else (none)) else (erratalaw17_small.j1 kj2 false)) else (none)) else (erratalaw17_small.j1 kj2 false)) else (none)) = some r := by rw [if_neg (show ¬ (false = true) by decide)] at H; exact H
        clear H
        have H := H1
        clear H1
        have HC13 := Aside0.mk H
        clear H
        go_upto_region 5 with (fail)
        go_cut [7] (fun v7 wc => ∃ (kq : Nat) (x7_12 : Bool), v7 = .bool x7_12 ∧ Aside0 (erratalaw17_small.j1 kq x7_12 = some r) ∧ Aside0 (kq ≤ kj2) ∧ Aside0 (Below w.heap.size w wc))
        case first =>
          have H := HC13.out
          clear HC13
          by_cases c14 : 0 < (t106.length : Int)
          · rw [if_pos c14] at H
            have c14b0 : decide (0 < (t106.length : Int)) = true := decide_eq_true c14
            have c14b1 : decide (0 < t106.length) = true := decide_eq_true (by omega)
            clear c14
            (first | rw [c14b0] | (simp only [i64_w, i32_w]; rw [c14b0]) | skip)
            by_cases c15 : ((rd_T43 t106 0).f1).toList = ([97] : List UInt8)
            · rw [if_pos c15] at H
              have c15b0 : (((rd_T43 t106 0).f1).toList == ([97] : List UInt8)) = true := beq_iff_eq.mpr c15
              have c15b1 : (((rd_T43 t106 0).f1).toList != ([97] : List UInt8)) = false := bne_eq_false_iff_eq.mpr c15
              clear c15
              by_cases c16 : 1 < (t106.length : Int)
              · rw [if_pos c16] at H
                have c16b0 : decide (1 < (t106.length : Int)) = true := decide_eq_true c16
                have c16b1 : decide (1 < t106.length) = true := decide_eq_true (by omega)
                clear c16
                by_cases c17 : ((rd_T43 t106 1).f1).toList = ([62, 61] : List UInt8)
                · rw [if_pos c17] at H
                  have c17b0 : (((rd_T43 t106 1).f1).toList == ([62, 61] : List UInt8)) = true := beq_iff_eq.mpr c17
                  have c17b1 : (((rd_T43 t106 1).f1).toList != ([62, 61] : List UInt8)) = false := bne_eq_false_iff_eq.mpr c17
                  clear c17
                  by_cases c18 : 2 < (t106.length : Int)
                  · rw [if_pos c18] at H
                    have c18b0 : decide (2 < (t106.length : Int)) = true := decide_eq_true c18
                    have c18b1 : decide (2 < t106.length) = true := decide_eq_true (by omega)
                    clear c18
                    by_cases c19 : ((rd_T43 t106 2).f2) = 12
                    · rw [if_pos c19] at H
                      have c19b0 : (((rd_T43 t106 2).f2) == 12) = true := beq_iff_eq.mpr c19
                      have c19b1 : (((rd_T43 t106 2).f2) != 12) = false := bne_eq_false_iff_eq.mpr c19
                      clear c19
                      by_cases c20 : 3 < (t106.length : Int)
                      · rw [if_pos c20] at H
                        have c20b0 : decide (3 < (t106.length : Int)) = true := decide_eq_true c20
                        have c20b1 : decide (3 < t106.length) = true := decide_eq_true (by omega)
                        clear c20
                        by_cases c21 : ((rd_T43 t106 3).f0) = 5
                        · rw [if_pos c21] at H
                          have c21b0 : (((rd_T43 t106 3).f0) == 5) = true := beq_iff_eq.mpr c21
                          have c21b1 : (((rd_T43 t106 3).f0) != 5) = false := bne_eq_false_iff_eq.mpr c21
                          clear c21
                          by_cases c22 : 1 < (t111.length : Int)
                          · rw [if_pos c22] at H
                            have c22b0 : decide (1 < (t111.length : Int)) = true := decide_eq_true c22
                            have c22b1 : decide (1 < t111.length) = true := decide_eq_true (by omega)
                            clear c22
                            by_cases c23 : ((rd_T43 t111 1).f1).toList = ([43, 43] : List UInt8)
                            · rw [if_pos c23] at H
                              have c23b0 : (((rd_T43 t111 1).f1).toList == ([43, 43] : List UInt8)) = true := beq_iff_eq.mpr c23
                              have c23b1 : (((rd_T43 t111 1).f1).toList != ([43, 43] : List UInt8)) = false := bne_eq_false_iff_eq.mpr c23
                              clear c23
                              by_cases c24 : 2 < (t111.length : Int)
                              · rw [if_pos c24] at H
                                have c24b0 : decide (2 < (t111.length : Int)) = true := decide_eq_true c24
                                have c24b1 : decide (2 < t111.length) = true := decide_eq_true (by omega)
                                clear c24
                                by_cases c25 : ((rd_T43 t111 2).f0) = 2
                                · rw [if_pos c25] at H
                                  have c25b0 : (((rd_T43 t111 2).f0) == 2) = true := beq_iff_eq.mpr c25
                                  have c25b1 : (((rd_T43 t111 2).f0) != 2) = false := bne_eq_false_iff_eq.mpr c25
                                  clear c25
                                  have H' := Aside0.mk H
                                  clear H
                                  obtain ⟨Ao26, co26, eo26⟩ := Kd.R_slice HO_1.out
                                  subst eo26
                                  have p116 : 0 ≤ (0 : Int) := (by omega)
                                  have q116 : 0 < (t106.length : Int) := of_decide_eq_true (by first | (with_reducible assumption) | assumption)
                                  obtain ⟨ad116, e116, hx116_0, hx116_1, hx116_2, hx116_3⟩ := at_T43 (Kd.R_reads' HO_1.out).2.2 0 p116 q116
                                  cases e116
                                  have qi116 : (0 < t106.length) = True := eq_true (by omega)
                                  (try rw [show ((0 : Int)).toNat = 0 from rfl] at hx116_0)
                                  (try rw [show 0 * 4 = 0 from rfl] at hx116_0)
                                  (try rw [Addr.add_zero'] at hx116_0)
                                  (try rw [show ((0 : Int)).toNat = 0 from rfl] at hx116_1)
                                  (try rw [show 0 * 4 = 0 from rfl] at hx116_1)
                                  (try rw [Addr.add_zero'] at hx116_1)
                                  (try rw [show ((0 : Int)).toNat = 0 from rfl] at hx116_2)
                                  (try rw [show 0 * 4 = 0 from rfl] at hx116_2)
                                  (try rw [Addr.add_zero'] at hx116_2)
                                  (try rw [show ((0 : Int)).toNat = 0 from rfl] at hx116_3)
                                  (try rw [show 0 * 4 = 0 from rfl] at hx116_3)
                                  (try rw [Addr.add_zero'] at hx116_3)
                                  replace p116 := eq_true p116
                                  replace q116 := eq_true q116
                                  have p117 : 0 ≤ (1 : Int) := (by omega)
                                  have q117 : 1 < (t106.length : Int) := of_decide_eq_true (by first | (with_reducible assumption) | assumption)
                                  obtain ⟨ad117, e117, hx117_0, hx117_1, hx117_2, hx117_3⟩ := at_T43 (Kd.R_reads' HO_1.out).2.2 1 p117 q117
                                  obtain rfl : ad116 = ad117 := (by injection e117)
                                  (try simp only [show (1 : Int).toNat = 1 from rfl, Nat.reduceMul, Nat.reduceEqDiff, Go.Addr.add, ↓reduceIte] at hx117_0)
                                  (try simp only [show (1 : Int).toNat = 1 from rfl, Nat.reduceMul, Nat.reduceEqDiff, Go.Addr.add, ↓reduceIte] at hx117_1)
                                  (try simp only [show (1 : Int).toNat = 1 from rfl, Nat.reduceMul, Nat.reduceEqDiff, Go.Addr.add, ↓reduceIte] at hx117_2)
                                  (try simp only [show (1 : Int).toNat = 1 from rfl, Nat.reduceMul, Nat.reduceEqDiff, Go.Addr.add, ↓reduceIte] at hx117_3)
                                  have qi117 : (1 < t106.length) = True := eq_true (by omega)
                                  (try rw [show ((1 : Int)).toNat = 1 from rfl] at hx117_0)
                                  (try rw [show 1 * 4 = 4 from rfl] at hx117_0)
                                  (try rw [show ((1 : Int)).toNat = 1 from rfl] at hx117_1)
                                  (try rw [show 1 * 4 = 4 from rfl] at hx117_1)
                                  (try rw [show ((1 : Int)).toNat = 1 from rfl] at hx117_2)
                                  (try rw [show 1 * 4 = 4 from rfl] at hx117_2)
                                  (try rw [show ((1 : Int)).toNat = 1 from rfl] at hx117_3)
                                  (try rw [show 1 * 4 = 4 from rfl] at hx117_3)
                                  replace p117 := eq_true p117
                                  replace q117 := eq_true q117
                                  have p118 : 0 ≤ (2 : Int) := (by omega)
                                  have q118 : 2 < (t106.length : Int) := of_decide_eq_true (by first | (with_reducible assumption) | assumption)
                                  obtain ⟨ad118, e118, hx118_0, hx118_1, hx118_2, hx118_3⟩ := at_T43 (Kd.R_reads' HO_1.out).2.2 2 p118 q118
                                  obtain rfl : ad116 = ad118 := (by injection e118)
                                  (try simp only [show (2 : Int).toNat = 2 from rfl, Nat.reduceMul, Nat.reduceEqDiff, Go.Addr.add, ↓reduceIte] at hx118_0)
                                  (try simp only [show (2 : Int).toNat = 2 from rfl, Nat.reduceMul, Nat.reduceEqDiff, Go.Addr.add, ↓reduceIte] at hx118_1)
                                  (try simp only [show (2 : Int).toNat = 2 from rfl, Nat.reduceMul, Nat.reduceEqDiff, Go.Addr.add, ↓reduceIte] at hx118_2)
                                  (try simp only [show (2 : Int).toNat = 2 from rfl, Nat.reduceMul, Nat.reduceEqDiff, Go.Addr.add, ↓reduceIte] at hx118_3)
                                  have qi118 : (2 < t106.length) = True := eq_true (by omega)
                                  (try rw [show ((2 : Int)).toNat = 2 from rfl] at hx118_0)
                                  (try rw [show 2 * 4 = 8 from rfl] at hx118_0)
                                  (try rw [show ((2 : Int)).toNat = 2 from rfl] at hx118_1)
                                  (try rw [show 2 * 4 = 8 from rfl] at hx118_1)
                                  (try rw [show ((2 : Int)).toNat = 2 from rfl] at hx118_2)
                                  (try rw [show 2 * 4 = 8 from rfl] at hx118_2)
                                  (try rw [show ((2 : Int)).toNat = 2 from rfl] at hx118_3)
                                  (try rw [show 2 * 4 = 8 from rfl] at hx118_3)
                                  replace p118 := eq_true p118
                                  replace q118 := eq_true q118
                                  have p119 : 0 ≤ (3 : Int) := (by omega)
                                  have q119 : 3 < (t106.length : Int) := of_decide_eq_true (by first | (with_reducible assumption) | assumption)
                                  obtain ⟨ad119, e119, hx119_0, hx119_1, hx119_2, hx119_3⟩ := at_T43 (Kd.R_reads' HO_1.out).2.2 3 p119 q119
                                  obtain rfl : ad116 = ad119 := (by injection e119)
                                  (try simp only [show (3 : Int).toNat = 3 from rfl, Nat.reduceMul, Nat.reduceEqDiff, Go.Addr.add, ↓reduceIte] at hx119_0)
                                  (try simp only [show (3 : Int).toNat = 3 from rfl, Nat.reduceMul, Nat.reduceEqDiff, Go.Addr.add, ↓reduceIte] at hx119_1)
                                  (try simp only [show (3 : Int).toNat = 3 from rfl, Nat.reduceMul, Nat.reduceEqDiff, Go.Addr.add, ↓reduceIte] at hx119_2)
                                  (try simp only [show (3 : Int).toNat = 3 from rfl, Nat.reduceMul, Nat.reduceEqDiff, Go.Addr.add, ↓reduceIte] at hx119_3)
                                  have qi119 : (3 < t106.length) = True := eq_true (by omega)
                                  (try rw [show ((3 : Int)).toNat = 3 from rfl] at hx119_0)
                                  (try rw [show 3 * 4 = 12 from rfl] at hx119_0)
                                  (try rw [show ((3 : Int)).toNat = 3 from rfl] at hx119_1)
                                  (try rw [show 3 * 4 = 12 from rfl] at hx119_1)
                                  (try rw [show ((3 : Int)).toNat = 3 from rfl] at hx119_2)
                                  (try rw [show 3 * 4 = 12 from rfl] at hx119_2)
                                  (try rw [show ((3 : Int)).toNat = 3 from rfl] at hx119_3)
                                  (try rw [show 3 * 4 = 12 from rfl] at hx119_3)
                                  replace p119 := eq_true p119
                                  replace q119 := eq_true q119
                                  obtain ⟨Ao27, co27, eo27⟩ := Kd.R_slice HO_4.out
                                  subst eo27
                                  have p120 : 0 ≤ (1 : Int) := (by omega)
                                  have q120 : 1 < (t111.length : Int) := of_decide_eq_true (by first | (with_reducible assumption) | assumption)
                                  obtain ⟨ad120, e120, hx120_0, hx120_1, hx120_2, hx120_3⟩ := at_T43 (Kd.R_reads' HO_4.out).2.2 1 p120 q120
                                  cases e120
                                  (try simp only [show (1 : Int).toNat = 1 from rfl, Nat.reduceMul, Nat.reduceEqDiff, Go.Addr.add, ↓reduceIte] at hx120_0)
                                  (try simp only [show (1 : Int).toNat = 1 from rfl, Nat.reduceMul, Nat.reduceEqDiff, Go.Addr.add, ↓reduceIte] at hx120_1)
                                  (try simp only [show (1 : Int).toNat = 1 from rfl, Nat.reduceMul, Nat.reduceEqDiff, Go.Addr.add, ↓reduceIte] at hx120_2)
                                  (try simp only [show (1 : Int).toNat = 1 from rfl, Nat.reduceMul, Nat.reduceEqDiff, Go.Addr.add, ↓reduceIte] at hx120_3)
                                  have qi120 : (1 < t111.length) = True := eq_true (by omega)
                                  (try rw [show ((1 : Int)).toNat = 1 from rfl] at hx120_0)
                                  (try rw [show 1 * 4 = 4 from rfl] at hx120_0)
                                  (try rw [show ((1 : Int)).toNat = 1 from rfl] at hx120_1)
                                  (try rw [show 1 * 4 = 4 from rfl] at hx120_1)
                                  (try rw [show ((1 : Int)).toNat = 1 from rfl] at hx120_2)
                                  (try rw [show 1 * 4 = 4 from rfl] at hx120_2)
                                  (try rw [show ((1 : Int)).toNat = 1 from rfl] at hx120_3)
                                  (try rw [show 1 * 4 = 4 from rfl] at hx120_3)
                                  replace p120 := eq_true p120
                                  replace q120 := eq_true q120
                                  have p121 : 0 ≤ (2 : Int) := (by omega)
                                  have q121 : 2 < (t111.length : Int) := of_decide_eq_true (by first | (with_reducible assumption) | assumption)
                                  obtain ⟨ad121, e121, hx121_0, hx121_1, hx121_2, hx121_3⟩ := at_T43 (Kd.R_reads' HO_4.out).2.2 2 p121 q121
                                  obtain rfl : ad120 = ad121 := (by injection e121)
                                  (try simp only [show (2 : Int).toNat = 2 from rfl, Nat.reduceMul, Nat.reduceEqDiff, Go.Addr.add, ↓reduceIte] at hx121_0)
                                  (try simp only [show (2 : Int).toNat = 2 from rfl, Nat.reduceMul, Nat.reduceEqDiff, Go.Addr.add, ↓reduceIte] at hx121_1)
                                  (try simp only [show (2 : Int).toNat = 2 from rfl, Nat.reduceMul, Nat.reduceEqDiff, Go.Addr.add, ↓reduceIte] at hx121_2)
                                  (try simp only [show (2 : Int).toNat = 2 from rfl, Nat.reduceMul, Nat.reduceEqDiff, Go.Addr.add, ↓reduceIte] at hx121_3)
                                  have qi121 : (2 < t111.length) = True := eq_true (by omega)
                                  (try rw [show ((2 : Int)).toNat = 2 from rfl] at hx121_0)
                                  (try rw [show 2 * 4 = 8 from rfl] at hx121_0)
                                  (try rw [show ((2 : Int)).toNat = 2 from rfl] at hx121_1)
                                  (try rw [show 2 * 4 = 8 from rfl] at hx121_1)
                                  (try rw [show ((2 : Int)).toNat = 2 from rfl] at hx121_2)
                                  (try rw [show 2 * 4 = 8 from rfl] at hx121_2)
                                  (try rw [show ((2 : Int)).toNat = 2 from rfl] at hx121_3)
                                  (try rw [show 2 * 4 = 8 from rfl] at hx121_3)
                                  replace p121 := eq_true p121
                                  replace q121 := eq_true q121
                                  have p122 : 0 ≤ (2 : Int) := (by omega)
                                  have q122 : 2 < (t111.length : Int) := of_decide_eq_true (by first | (with_reducible assumption) | assumption)
                                  obtain ⟨ad122, e122, hx122_0, hx122_1, hx122_2, hx122_3⟩ := at_T43 (Kd.R_reads' HO_4.out).2.2 2 p122 q122
                                  obtain rfl : ad120 = ad122 := (by injection e122)
                                  (try simp only [show (2 : Int).toNat = 2 from rfl, Nat.reduceMul, Nat.reduceEqDiff, Go.Addr.add, ↓reduceIte] at hx122_0)
                                  (try simp only [show (2 : Int).toNat = 2 from rfl, Nat.reduceMul, Nat.reduceEqDiff, Go.Addr.add, ↓reduceIte] at hx122_1)
                                  (try simp only [show (2 : Int).toNat = 2 from rfl, Nat.reduceMul, Nat.reduceEqDiff, Go.Addr.add, ↓reduceIte] at hx122_2)
                                  (try simp only [show (2 : Int).toNat = 2 from rfl, Nat.reduceMul, Nat.reduceEqDiff, Go.Addr.add, ↓reduceIte] at hx122_3)
                                  have qi122 : (2 < t111.length) = True := eq_true (by omega)
                                  (try rw [show ((2 : Int)).toNat = 2 from rfl] at hx122_0)
                                  (try rw [show 2 * 4 = 8 from rfl] at hx122_0)
                                  (try rw [show ((2 : Int)).toNat = 2 from rfl] at hx122_1)
                                  (try rw [show 2 * 4 = 8 from rfl] at hx122_1)
                                  (try rw [show ((2 : Int)).toNat = 2 from rfl] at hx122_2)
                                  (try rw [show 2 * 4 = 8 from rfl] at hx122_2)
                                  (try rw [show ((2 : Int)).toNat = 2 from rfl] at hx122_3)
                                  (try rw [show 2 * 4 = 8 from rfl] at hx122_3)
                                  replace p122 := eq_true p122
                                  replace q122 := eq_true q122
                                  go_wp2
                                  go_meet
                                  case rel => exact ⟨_, ((((rd_T43 t111 2).f1).toList == ([97, 34, 98] : List UInt8))), (by first | rfl | (simp; done) | (simp [*]; done)), H', ⟨by have := HJ2.out; first | omega | exact Nat.le_refl _⟩, ⟨by repeat (first | (with_reducible first | exact HB.out | apply below_alloc | apply pw_below_drewN | apply below_drew1) | exact HB.out)⟩⟩
                                · rw [if_neg c25] at H
                                  have c25b0 : (((rd_T43 t111 2).f0) == 2) = false := beq_eq_false_iff_ne.mpr c25
                                  have c25b1 : (((rd_T43 t111 2).f0) != 2) = true := bne_iff_ne.mpr c25
                                  have H' := Aside0.mk H
                                  clear H
                                  obtain ⟨Ao28, co28, eo28⟩ := Kd.R_slice HO_1.out
                                  subst eo28
                                  have p116 : 0 ≤ (0 : Int) := (by omega)
                                  have q116 : 0 < (t106.length : Int) := of_decide_eq_true (by first | (with_reducible assumption) | assumption)
                                  obtain ⟨ad116, e116, hx116_0, hx116_1, hx116_2, hx116_3⟩ := at_T43 (Kd.R_reads' HO_1.out).2.2 0 p116 q116
                                  cases e116
                                  have qi116 : (0 < t106.length) = True := eq_true (by omega)
                                  (try rw [show ((0 : Int)).toNat = 0 from rfl] at hx116_0)
                                  (try rw [show 0 * 4 = 0 from rfl] at hx116_0)
                                  (try rw [Addr.add_zero'] at hx116_0)
                                  (try rw [show ((0 : Int)).toNat = 0 from rfl] at hx116_1)
                                  (try rw [show 0 * 4 = 0 from rfl] at hx116_1)
                                  (try rw [Addr.add_zero'] at hx116_1)
                                  (try rw [show ((0 : Int)).toNat = 0 from rfl] at hx116_2)
                                  (try rw [show 0 * 4 = 0 from rfl] at hx116_2)
                                  (try rw [Addr.add_zero'] at hx116_2)
                                  (try rw [show ((0 : Int)).toNat = 0 from rfl] at hx116_3)
                                  (try rw [show 0 * 4 = 0 from rfl] at hx116_3)
                                  (try rw [Addr.add_zero'] at hx116_3)
                                  replace p116 := eq_true p116
                                  replace q116 := eq_true q116
                                  have p117 : 0 ≤ (1 : Int) := (by omega)
                                  have q117 : 1 < (t106.length : Int) := of_decide_eq_true (by first | (with_reducible assumption) | assumption)
                                  obtain ⟨ad117, e117, hx117_0, hx117_1, hx117_2, hx117_3⟩ := at_T43 (Kd.R_reads' HO_1.out).2.2 1 p117 q117
                                  obtain rfl : ad116 = ad117 := (by injection e117)
                                  (try simp only [show (1 : Int).toNat = 1 from rfl, Nat.reduceMul, Nat.reduceEqDiff, Go.Addr.add, ↓reduceIte] at hx117_0)
                                  (try simp only [show (1 : Int).toNat = 1 from rfl, Nat.reduceMul, Nat.reduceEqDiff, Go.Addr.add, ↓reduceIte] at hx117_1)
                                  (try simp only [show (1 : Int).toNat = 1 from rfl, Nat.reduceMul, Nat.reduceEqDiff, Go.Addr.add, ↓reduceIte] at hx117_2)
                                  (try simp only [show (1 : Int).toNat = 1 from rfl, Nat.reduceMul, Nat.reduceEqDiff, Go.Addr.add, ↓reduceIte] at hx117_3)
                                  have qi117 : (1 < t106.length) = True := eq_true (by omega)
                                  (try rw [show ((1 : Int)).toNat = 1 from rfl] at hx117_0)
                                  (try rw [show 1 * 4 = 4 from rfl] at hx117_0)
                                  (try rw [show ((1 : Int)).toNat = 1 from rfl] at hx117_1)
                                  (try rw [show 1 * 4 = 4 from rfl] at hx117_1)
                                  (try rw [show ((1 : Int)).toNat = 1 from rfl] at hx117_2)
                                  (try rw [show 1 * 4 = 4 from rfl] at hx117_2)
                                  (try rw [show ((1 : Int)).toNat = 1 from rfl] at hx117_3)
                                  (try rw [show 1 * 4 = 4 from rfl] at hx117_3)
                                  replace p117 := eq_true p117
                                  replace q117 := eq_true q117
                                  have p118 : 0 ≤ (2 : Int) := (by omega)
                                  have q118 : 2 < (t106.length : Int) := of_decide_eq_true (by first | (with_reducible assumption) | assumption)
                                  obtain ⟨ad118, e118, hx118_0, hx118_1, hx118_2, hx118_3⟩ := at_T43 (Kd.R_reads' HO_1.out).2.2 2 p118 q118
                                  obtain rfl : ad116 = ad118 := (by injection e118)
                                  (try simp only [show (2 : Int).toNat = 2 from rfl, Nat.reduceMul, Nat.reduceEqDiff, Go.Addr.add, ↓reduceIte] at hx118_0)
                                  (try simp only [show (2 : Int).toNat = 2 from rfl, Nat.reduceMul, Nat.reduceEqDiff, Go.Addr.add, ↓reduceIte] at hx118_1)
                                  (try simp only [show (2 : Int).toNat = 2 from rfl, Nat.reduceMul, Nat.reduceEqDiff, Go.Addr.add, ↓reduceIte] at hx118_2)
                                  (try simp only [show (2 : Int).toNat = 2 from rfl, Nat.reduceMul, Nat.reduceEqDiff, Go.Addr.add, ↓reduceIte] at hx118_3)
                                  have qi118 : (2 < t106.length) = True := eq_true (by omega)
                                  (try rw [show ((2 : Int)).toNat = 2 from rfl] at hx118_0)
                                  (try rw [show 2 * 4 = 8 from rfl] at hx118_0)
                                  (try rw [show ((2 : Int)).toNat = 2 from rfl] at hx118_1)
                                  (try rw [show 2 * 4 = 8 from rfl] at hx118_1)
                                  (try rw [show ((2 : Int)).toNat = 2 from rfl] at hx118_2)
                                  (try rw [show 2 * 4 = 8 from rfl] at hx118_2)
                                  (try rw [show ((2 : Int)).toNat = 2 from rfl] at hx118_3)
                                  (try rw [show 2 * 4 = 8 from rfl] at hx118_3)
                                  replace p118 := eq_true p118
                                  replace q118 := eq_true q118
                                  have p119 : 0 ≤ (3 : Int) := (by omega)
                                  have q119 : 3 < (t106.length : Int) := of_decide_eq_true (by first | (with_reducible assumption) | assumption)
                                  obtain ⟨ad119, e119, hx119_0, hx119_1, hx119_2, hx119_3⟩ := at_T43 (Kd.R_reads' HO_1.out).2.2 3 p119 q119
                                  obtain rfl : ad116 = ad119 := (by injection e119)
                                  (try simp only [show (3 : Int).toNat = 3 from rfl, Nat.reduceMul, Nat.reduceEqDiff, Go.Addr.add, ↓reduceIte] at hx119_0)
                                  (try simp only [show (3 : Int).toNat = 3 from rfl, Nat.reduceMul, Nat.reduceEqDiff, Go.Addr.add, ↓reduceIte] at hx119_1)
                                  (try simp only [show (3 : Int).toNat = 3 from rfl, Nat.reduceMul, Nat.reduceEqDiff, Go.Addr.add, ↓reduceIte] at hx119_2)
                                  (try simp only [show (3 : Int).toNat = 3 from rfl, Nat.reduceMul, Nat.reduceEqDiff, Go.Addr.add, ↓reduceIte] at hx119_3)
                                  have qi119 : (3 < t106.length) = True := eq_true (by omega)
                                  (try rw [show ((3 : Int)).toNat = 3 from rfl] at hx119_0)
                                  (try rw [show 3 * 4 = 12 from rfl] at hx119_0)
                                  (try rw [show ((3 : Int)).toNat = 3 from rfl] at hx119_1)
                                  (try rw [show 3 * 4 = 12 from rfl] at hx119_1)
                                  (try rw [show ((3 : Int)).toNat = 3 from rfl] at hx119_2)
                                  (try rw [show 3 * 4 = 12 from rfl] at hx119_2)
                                  (try rw [show ((3 : Int)).toNat = 3 from rfl] at hx119_3)
                                  (try rw [show 3 * 4 = 12 from rfl] at hx119_3)
                                  replace p119 := eq_true p119
                                  replace q119 := eq_true q119
                                  obtain ⟨Ao29, co29, eo29⟩ := Kd.R_slice HO_4.out
                                  subst eo29
                                  have p120 : 0 ≤ (1 : Int) := (by omega)
                                  have q120 : 1 < (t111.length : Int) := of_decide_eq_true (by first | (with_reducible assumption) | assumption)
                                  obtain ⟨ad120, e120, hx120_0, hx120_1, hx120_2, hx120_3⟩ := at_T43 (Kd.R_reads' HO_4.out).2.2 1 p120 q120
                                  cases e120
                                  (try simp only [show (1 : Int).toNat = 1 from rfl, Nat.reduceMul, Nat.reduceEqDiff, Go.Addr.add, ↓reduceIte] at hx120_0)
                                  (try simp only [show (1 : Int).toNat = 1 from rfl, Nat.reduceMul, Nat.reduceEqDiff, Go.Addr.add, ↓reduceIte] at hx120_1)
                                  (try simp only [show (1 : Int).toNat = 1 from rfl, Nat.reduceMul, Nat.reduceEqDiff, Go.Addr.add, ↓reduceIte] at hx120_2)
                                  (try simp only [show (1 : Int).toNat = 1 from rfl, Nat.reduceMul, Nat.reduceEqDiff, Go.Addr.add, ↓reduceIte] at hx120_3)
                                  have qi120 : (1 < t111.length) = True := eq_true (by omega)
                                  (try rw [show ((1 : Int)).toNat = 1 from rfl] at hx120_0)
                                  (try rw [show 1 * 4 = 4 from rfl] at hx120_0)
                                  (try rw [show ((1 : Int)).toNat = 1 from rfl] at hx120_1)
                                  (try rw [show 1 * 4 = 4 from rfl] at hx120_1)
                                  (try rw [show ((1 : Int)).toNat = 1 from rfl] at hx120_2)
                                  (try rw [show 1 * 4 = 4 from rfl] at hx120_2)
                                  (try rw [show ((1 : Int)).toNat = 1 from rfl] at hx120_3)
                                  (try rw [show 1 * 4 = 4 from rfl] at hx120_3)
                                  replace p120 := eq_true p120
                                  replace q120 := eq_true q120
                                  have p121 : 0 ≤ (2 : Int) := (by omega)
                                  have q121 : 2 < (t111.length : Int) := of_decide_eq_true (by first | (with_reducible assumption) | assumption)
                                  obtain ⟨ad121, e121, hx121_0, hx121_1, hx121_2, hx121_3⟩ := at_T43 (Kd.R_reads' HO_4.out).2.2 2 p121 q121
                                  obtain rfl : ad120 = ad121 := (by injection e121)
                                  (try simp only [show (2 : Int).toNat = 2 from rfl, Nat.reduceMul, Nat.reduceEqDiff, Go.Addr.add, ↓reduceIte] at hx121_0)
                                  (try simp only [show (2 : Int).toNat = 2 from rfl, Nat.reduceMul, Nat.reduceEqDiff, Go.Addr.add, ↓reduceIte] at hx121_1)
                                  (try simp only [show (2 : Int).toNat = 2 from rfl, Nat.reduceMul, Nat.reduceEqDiff, Go.Addr.add, ↓reduceIte] at hx121_2)
                                  (try simp only [show (2 : Int).toNat = 2 from rfl, Nat.reduceMul, Nat.reduceEqDiff, Go.Addr.add, ↓reduceIte] at hx121_3)
                                  have qi121 : (2 < t111.length) = True := eq_true (by omega)
                                  (try rw [show ((2 : Int)).toNat = 2 from rfl] at hx121_0)
                                  (try rw [show 2 * 4 = 8 from rfl] at hx121_0)
                                  (try rw [show ((2 : Int)).toNat = 2 from rfl] at hx121_1)
                                  (try rw [show 2 * 4 = 8 from rfl] at hx121_1)
                                  (try rw [show ((2 : Int)).toNat = 2 from rfl] at hx121_2)
                                  (try rw [show 2 * 4 = 8 from rfl] at hx121_2)
                                  (try rw [show ((2 : Int)).toNat = 2 from rfl] at hx121_3)
                                  (try rw [show 2 * 4 = 8 from rfl] at hx121_3)
                                  replace p121 := eq_true p121
                                  replace q121 := eq_true q121
                                  go_wp2
                                  go_meet
                                  case rel => exact ⟨_, (false), (by first | rfl | (simp; done) | (simp [*]; done)), H', ⟨by have := HJ2.out; first | omega | exact Nat.le_refl _⟩, ⟨by repeat (first | (with_reducible first | exact HB.out | apply below_alloc | apply pw_below_drewN | apply below_drew1) | exact HB.out)⟩⟩
                              · rw [if_neg c24] at H
                                exact absurd H (by simp)
                            · rw [if_neg c23] at H
                              have c23b0 : (((rd_T43 t111 1).f1).toList == ([43, 43] : List UInt8)) = false := beq_eq_false_iff_ne.mpr c23
                              have c23b1 : (((rd_T43 t111 1).f1).toList != ([43, 43] : List UInt8)) = true := bne_iff_ne.mpr c23
                              have H' := Aside0.mk H
                              clear H
                              obtain ⟨Ao30, co30, eo30⟩ := Kd.R_slice HO_1.out
                              subst eo30
                              have p116 : 0 ≤ (0 : Int) := (by omega)
                              have q116 : 0 < (t106.length : Int) := of_decide_eq_true (by first | (with_reducible assumption) | assumption)
                              obtain ⟨ad116, e116, hx116_0, hx116_1, hx116_2, hx116_3⟩ := at_T43 (Kd.R_reads' HO_1.out).2.2 0 p116 q116
                              cases e116
                              have qi116 : (0 < t106.length) = True := eq_true (by omega)
                              (try rw [show ((0 : Int)).toNat = 0 from rfl] at hx116_0)
                              (try rw [show 0 * 4 = 0 from rfl] at hx116_0)
                              (try rw [Addr.add_zero'] at hx116_0)
                              (try rw [show ((0 : Int)).toNat = 0 from rfl] at hx116_1)
                              (try rw [show 0 * 4 = 0 from rfl] at hx116_1)
                              (try rw [Addr.add_zero'] at hx116_1)
                              (try rw [show ((0 : Int)).toNat = 0 from rfl] at hx116_2)
                              (try rw [show 0 * 4 = 0 from rfl] at hx116_2)
                              (try rw [Addr.add_zero'] at hx116_2)
                              (try rw [show ((0 : Int)).toNat = 0 from rfl] at hx116_3)
                              (try rw [show 0 * 4 = 0 from rfl] at hx116_3)
                              (try rw [Addr.add_zero'] at hx116_3)
                              replace p116 := eq_true p116
                              replace q116 := eq_true q116
                              have p117 : 0 ≤ (1 : Int) := (by omega)
                              have q117 : 1 < (t106.length : Int) := of_decide_eq_true (by first | (with_reducible assumption) | assumption)
                              obtain ⟨ad117, e117, hx117_0, hx117_1, hx117_2, hx117_3⟩ := at_T43 (Kd.R_reads' HO_1.out).2.2 1 p117 q117
                              obtain rfl : ad116 = ad117 := (by injection e117)
                              (try simp only [show (1 : Int).toNat = 1 from rfl, Nat.reduceMul, Nat.reduceEqDiff, Go.Addr.add, ↓reduceIte] at hx117_0)
                              (try simp only [show (1 : Int).toNat = 1 from rfl, Nat.reduceMul, Nat.reduceEqDiff, Go.Addr.add, ↓reduceIte] at hx117_1)
                              (try simp only [show (1 : Int).toNat = 1 from rfl, Nat.reduceMul, Nat.reduceEqDiff, Go.Addr.add, ↓reduceIte] at hx117_2)
                              (try simp only [show (1 : Int).toNat = 1 from rfl, Nat.reduceMul, Nat.reduceEqDiff, Go.Addr.add, ↓reduceIte] at hx117_3)
                              have qi117 : (1 < t106.length) = True := eq_true (by omega)
                              (try rw [show ((1 : Int)).toNat = 1 from rfl] at hx117_0)
                              (try rw [show 1 * 4 = 4 from rfl] at hx117_0)
                              (try rw [show ((1 : Int)).toNat = 1 from rfl] at hx117_1)
                              (try rw [show 1 * 4 = 4 from rfl] at hx117_1)
                              (try rw [show ((1 : Int)).toNat = 1 from rfl] at hx117_2)
                              (try rw [show 1 * 4 = 4 from rfl] at hx117_2)
                              (try rw [show ((1 : Int)).toNat = 1 from rfl] at hx117_3)
                              (try rw [show 1 * 4 = 4 from rfl] at hx117_3)
                              replace p117 := eq_true p117
                              replace q117 := eq_true q117
                              have p118 : 0 ≤ (2 : Int) := (by omega)
                              have q118 : 2 < (t106.length : Int) := of_decide_eq_true (by first | (with_reducible assumption) | assumption)
                              obtain ⟨ad118, e118, hx118_0, hx118_1, hx118_2, hx118_3⟩ := at_T43 (Kd.R_reads' HO_1.out).2.2 2 p118 q118
                              obtain rfl : ad116 = ad118 := (by injection e118)
                              (try simp only [show (2 : Int).toNat = 2 from rfl, Nat.reduceMul, Nat.reduceEqDiff, Go.Addr.add, ↓reduceIte] at hx118_0)
                              (try simp only [show (2 : Int).toNat = 2 from rfl, Nat.reduceMul, Nat.reduceEqDiff, Go.Addr.add, ↓reduceIte] at hx118_1)
                              (try simp only [show (2 : Int).toNat = 2 from rfl, Nat.reduceMul, Nat.reduceEqDiff, Go.Addr.add, ↓reduceIte] at hx118_2)
                              (try simp only [show (2 : Int).toNat = 2 from rfl, Nat.reduceMul, Nat.reduceEqDiff, Go.Addr.add, ↓reduceIte] at hx118_3)
                              have qi118 : (2 < t106.length) = True := eq_true (by omega)
                              (try rw [show ((2 : Int)).toNat = 2 from rfl] at hx118_0)
                              (try rw [show 2 * 4 = 8 from rfl] at hx118_0)
                              (try rw [show ((2 : Int)).toNat = 2 from rfl] at hx118_1)
                              (try rw [show 2 * 4 = 8 from rfl] at hx118_1)
                              (try rw [show ((2 : Int)).toNat = 2 from rfl] at hx118_2)
                              (try rw [show 2 * 4 = 8 from rfl] at hx118_2)
                              (try rw [show ((2 : Int)).toNat = 2 from rfl] at hx118_3)
                              (try rw [show 2 * 4 = 8 from rfl] at hx118_3)
                              replace p118 := eq_true p118
                              replace q118 := eq_true q118
                              have p119 : 0 ≤ (3 : Int) := (by omega)
                              have q119 : 3 < (t106.length : Int) := of_decide_eq_true (by first | (with_reducible assumption) | assumption)
                              obtain ⟨ad119, e119, hx119_0, hx119_1, hx119_2, hx119_3⟩ := at_T43 (Kd.R_reads' HO_1.out).2.2 3 p119 q119
                              obtain rfl : ad116 = ad119 := (by injection e119)
                              (try simp only [show (3 : Int).toNat = 3 from rfl, Nat.reduceMul, Nat.reduceEqDiff, Go.Addr.add, ↓reduceIte] at hx119_0)
                              (try simp only [show (3 : Int).toNat = 3 from rfl, Nat.reduceMul, Nat.reduceEqDiff, Go.Addr.add, ↓reduceIte] at hx119_1)
                              (try simp only [show (3 : Int).toNat = 3 from rfl, Nat.reduceMul, Nat.reduceEqDiff, Go.Addr.add, ↓reduceIte] at hx119_2)
                              (try simp only [show (3 : Int).toNat = 3 from rfl, Nat.reduceMul, Nat.reduceEqDiff, Go.Addr.add, ↓reduceIte] at hx119_3)
                              have qi119 : (3 < t106.length) = True := eq_true (by omega)
                              (try rw [show ((3 : Int)).toNat = 3 from rfl] at hx119_0)
                              (try rw [show 3 * 4 = 12 from rfl] at hx119_0)
                              (try rw [show ((3 : Int)).toNat = 3 from rfl] at hx119_1)
                              (try rw [show 3 * 4 = 12 from rfl] at hx119_1)
                              (try rw [show ((3 : Int)).toNat = 3 from rfl] at hx119_2)
                              (try rw [show 3 * 4 = 12 from rfl] at hx119_2)
                              (try rw [show ((3 : Int)).toNat = 3 from rfl] at hx119_3)
                              (try rw [show 3 * 4 = 12 from rfl] at hx119_3)
                              replace p119 := eq_true p119
                              replace q119 := eq_true q119
                              obtain ⟨Ao31, co31, eo31⟩ := Kd.R_slice HO_4.out
                              subst eo31
                              have p120 : 0 ≤ (1 : Int) := (by omega)
                              have q120 : 1 < (t111.length : Int) := of_decide_eq_true (by first | (with_reducible assumption) | assumption)
                              obtain ⟨ad120, e120, hx120_0, hx120_1, hx120_2, hx120_3⟩ := at_T43 (Kd.R_reads' HO_4.out).2.2 1 p120 q120
                              cases e120
                              (try simp only [show (1 : Int).toNat = 1 from rfl, Nat.reduceMul, Nat.reduceEqDiff, Go.Addr.add, ↓reduceIte] at hx120_0)
                              (try simp only [show (1 : Int).toNat = 1 from rfl, Nat.reduceMul, Nat.reduceEqDiff, Go.Addr.add, ↓reduceIte] at hx120_1)
                              (try simp only [show (1 : Int).toNat = 1 from rfl, Nat.reduceMul, Nat.reduceEqDiff, Go.Addr.add, ↓reduceIte] at hx120_2)
                              (try simp only [show (1 : Int).toNat = 1 from rfl, Nat.reduceMul, Nat.reduceEqDiff, Go.Addr.add, ↓reduceIte] at hx120_3)
                              have qi120 : (1 < t111.length) = True := eq_true (by omega)
                              (try rw [show ((1 : Int)).toNat = 1 from rfl] at hx120_0)
                              (try rw [show 1 * 4 = 4 from rfl] at hx120_0)
                              (try rw [show ((1 : Int)).toNat = 1 from rfl] at hx120_1)
                              (try rw [show 1 * 4 = 4 from rfl] at hx120_1)
                              (try rw [show ((1 : Int)).toNat = 1 from rfl] at hx120_2)
                              (try rw [show 1 * 4 = 4 from rfl] at hx120_2)
                              (try rw [show ((1 : Int)).toNat = 1 from rfl] at hx120_3)
                              (try rw [show 1 * 4 = 4 from rfl] at hx120_3)
                              replace p120 := eq_true p120
                              replace q120 := eq_true q120
                              go_wp2
                              go_meet
                              case rel => exact ⟨_, (false), (by first | rfl | (simp; done) | (simp [*]; done)), H', ⟨by have := HJ2.out; first | omega | exact Nat.le_refl _⟩, ⟨by repeat (first | (with_reducible first | exact HB.out | apply below_alloc | apply pw_below_drewN | apply below_drew1) | exact HB.out)⟩⟩
                          · rw [if_neg c22] at H
                            exact absurd H (by simp)
                        · rw [if_neg c21] at H
                          have c21b0 : (((rd_T43 t106 3).f0) == 5) = false := beq_eq_false_iff_ne.mpr c21
                          have c21b1 : (((rd_T43 t106 3).f0) != 5) = true := bne_iff_ne.mpr c21
                          have H' := Aside0.mk H
                          clear H
                          obtain ⟨Ao32, co32, eo32⟩ := Kd.R_slice HO_1.out
                          subst eo32
                          have p116 : 0 ≤ (0 : Int) := (by omega)
                          have q116 : 0 < (t106.length : Int) := of_decide_eq_true (by first | (with_reducible assumption) | assumption)
                          obtain ⟨ad116, e116, hx116_0, hx116_1, hx116_2, hx116_3⟩ := at_T43 (Kd.R_reads' HO_1.out).2.2 0 p116 q116
                          cases e116
                          have qi116 : (0 < t106.length) = True := eq_true (by omega)
                          (try rw [show ((0 : Int)).toNat = 0 from rfl] at hx116_0)
                          (try rw [show 0 * 4 = 0 from rfl] at hx116_0)
                          (try rw [Addr.add_zero'] at hx116_0)
                          (try rw [show ((0 : Int)).toNat = 0 from rfl] at hx116_1)
                          (try rw [show 0 * 4 = 0 from rfl] at hx116_1)
                          (try rw [Addr.add_zero'] at hx116_1)
                          (try rw [show ((0 : Int)).toNat = 0 from rfl] at hx116_2)
                          (try rw [show 0 * 4 = 0 from rfl] at hx116_2)
                          (try rw [Addr.add_zero'] at hx116_2)
                          (try rw [show ((0 : Int)).toNat = 0 from rfl] at hx116_3)
                          (try rw [show 0 * 4 = 0 from rfl] at hx116_3)
                          (try rw [Addr.add_zero'] at hx116_3)
                          replace p116 := eq_true p116
                          replace q116 := eq_true q116
                          have p117 : 0 ≤ (1 : Int) := (by omega)
                          have q117 : 1 < (t106.length : Int) := of_decide_eq_true (by first | (with_reducible assumption) | assumption)
                          obtain ⟨ad117, e117, hx117_0, hx117_1, hx117_2, hx117_3⟩ := at_T43 (Kd.R_reads' HO_1.out).2.2 1 p117 q117
                          obtain rfl : ad116 = ad117 := (by injection e117)
                          (try simp only [show (1 : Int).toNat = 1 from rfl, Nat.reduceMul, Nat.reduceEqDiff, Go.Addr.add, ↓reduceIte] at hx117_0)
                          (try simp only [show (1 : Int).toNat = 1 from rfl, Nat.reduceMul, Nat.reduceEqDiff, Go.Addr.add, ↓reduceIte] at hx117_1)
                          (try simp only [show (1 : Int).toNat = 1 from rfl, Nat.reduceMul, Nat.reduceEqDiff, Go.Addr.add, ↓reduceIte] at hx117_2)
                          (try simp only [show (1 : Int).toNat = 1 from rfl, Nat.reduceMul, Nat.reduceEqDiff, Go.Addr.add, ↓reduceIte] at hx117_3)
                          have qi117 : (1 < t106.length) = True := eq_true (by omega)
                          (try rw [show ((1 : Int)).toNat = 1 from rfl] at hx117_0)
                          (try rw [show 1 * 4 = 4 from rfl] at hx117_0)
                          (try rw [show ((1 : Int)).toNat = 1 from rfl] at hx117_1)
                          (try rw [show 1 * 4 = 4 from rfl] at hx117_1)
                          (try rw [show ((1 : Int)).toNat = 1 from rfl] at hx117_2)
                          (try rw [show 1 * 4 = 4 from rfl] at hx117_2)
                          (try rw [show ((1 : Int)).toNat = 1 from rfl] at hx117_3)
                          (try rw [show 1 * 4 = 4 from rfl] at hx117_3)
                          replace p117 := eq_true p117
                          replace q117 := eq_true q117
                          have p118 : 0 ≤ (2 : Int) := (by omega)
                          have q118 : 2 < (t106.length : Int) := of_decide_eq_true (by first | (with_reducible assumption) | assumption)
                          obtain ⟨ad118, e118, hx118_0, hx118_1, hx118_2, hx118_3⟩ := at_T43 (Kd.R_reads' HO_1.out).2.2 2 p118 q118
                          obtain rfl : ad116 = ad118 := (by injection e118)
                          (try simp only [show (2 : Int).toNat = 2 from rfl, Nat.reduceMul, Nat.reduceEqDiff, Go.Addr.add, ↓reduceIte] at hx118_0)
                          (try simp only [show (2 : Int).toNat = 2 from rfl, Nat.reduceMul, Nat.reduceEqDiff, Go.Addr.add, ↓reduceIte] at hx118_1)
                          (try simp only [show (2 : Int).toNat = 2 from rfl, Nat.reduceMul, Nat.reduceEqDiff, Go.Addr.add, ↓reduceIte] at hx118_2)
                          (try simp only [show (2 : Int).toNat = 2 from rfl, Nat.reduceMul, Nat.reduceEqDiff, Go.Addr.add, ↓reduceIte] at hx118_3)
                          have qi118 : (2 < t106.length) = True := eq_true (by omega)
                          (try rw [show ((2 : Int)).toNat = 2 from rfl] at hx118_0)
                          (try rw [show 2 * 4 = 8 from rfl] at hx118_0)
                          (try rw [show ((2 : Int)).toNat = 2 from rfl] at hx118_1)
                          (try rw [show 2 * 4 = 8 from rfl] at hx118_1)
                          (try rw [show ((2 : Int)).toNat = 2 from rfl] at hx118_2)
                          (try rw [show 2 * 4 = 8 from rfl] at hx118_2)
                          (try rw [show ((2 : Int)).toNat = 2 from rfl] at hx118_3)
                          (try rw [show 2 * 4 = 8 from rfl] at hx118_3)
                          replace p118 := eq_true p118
                          replace q118 := eq_true q118
                          have p119 : 0 ≤ (3 : Int) := (by omega)
                          have q119 : 3 < (t106.length : Int) := of_decide_eq_true (by first | (with_reducible assumption) | assumption)
                          obtain ⟨ad119, e119, hx119_0, hx119_1, hx119_2, hx119_3⟩ := at_T43 (Kd.R_reads' HO_1.out).2.2 3 p119 q119
                          obtain rfl : ad116 = ad119 := (by injection e119)
                          (try simp only [show (3 : Int).toNat = 3 from rfl, Nat.reduceMul, Nat.reduceEqDiff, Go.Addr.add, ↓reduceIte] at hx119_0)
                          (try simp only [show (3 : Int).toNat = 3 from rfl, Nat.reduceMul, Nat.reduceEqDiff, Go.Addr.add, ↓reduceIte] at hx119_1)
                          (try simp only [show (3 : Int).toNat = 3 from rfl, Nat.reduceMul, Nat.reduceEqDiff, Go.Addr.add, ↓reduceIte] at hx119_2)
                          (try simp only [show (3 : Int).toNat = 3 from rfl, Nat.reduceMul, Nat.reduceEqDiff, Go.Addr.add, ↓reduceIte] at hx119_3)
                          have qi119 : (3 < t106.length) = True := eq_true (by omega)
                          (try rw [show ((3 : Int)).toNat = 3 from rfl] at hx119_0)
                          (try rw [show 3 * 4 = 12 from rfl] at hx119_0)
                          (try rw [show ((3 : Int)).toNat = 3 from rfl] at hx119_1)
                          (try rw [show 3 * 4 = 12 from rfl] at hx119_1)
                          (try rw [show ((3 : Int)).toNat = 3 from rfl] at hx119_2)
                          (try rw [show 3 * 4 = 12 from rfl] at hx119_2)
                          (try rw [show ((3 : Int)).toNat = 3 from rfl] at hx119_3)
                          (try rw [show 3 * 4 = 12 from rfl] at hx119_3)
                          replace p119 := eq_true p119
                          replace q119 := eq_true q119
                          go_wp2
                          go_meet
                          case rel => exact ⟨_, (false), (by first | rfl | (simp; done) | (simp [*]; done)), H', ⟨by have := HJ2.out; first | omega | exact Nat.le_refl _⟩, ⟨by repeat (first | (with_reducible first | exact HB.out | apply below_alloc | apply pw_below_drewN | apply below_drew1) | exact HB.out)⟩⟩
                      · rw [if_neg c20] at H
                        exact absurd H (by simp)
                    · rw [if_neg c19] at H
                      have c19b0 : (((rd_T43 t106 2).f2) == 12) = false := beq_eq_false_iff_ne.mpr c19
                      have c19b1 : (((rd_T43 t106 2).f2) != 12) = true := bne_iff_ne.mpr c19
                      have H' := Aside0.mk H
                      clear H
                      obtain ⟨Ao33, co33, eo33⟩ := Kd.R_slice HO_1.out
                      subst eo33
                      have p116 : 0 ≤ (0 : Int) := (by omega)
                      have q116 : 0 < (t106.length : Int) := of_decide_eq_true (by first | (with_reducible assumption) | assumption)
                      obtain ⟨ad116, e116, hx116_0, hx116_1, hx116_2, hx116_3⟩ := at_T43 (Kd.R_reads' HO_1.out).2.2 0 p116 q116
                      cases e116
                      have qi116 : (0 < t106.length) = True := eq_true (by omega)
                      (try rw [show ((0 : Int)).toNat = 0 from rfl] at hx116_0)
                      (try rw [show 0 * 4 = 0 from rfl] at hx116_0)
                      (try rw [Addr.add_zero'] at hx116_0)
                      (try rw [show ((0 : Int)).toNat = 0 from rfl] at hx116_1)
                      (try rw [show 0 * 4 = 0 from rfl] at hx116_1)
                      (try rw [Addr.add_zero'] at hx116_1)
                      (try rw [show ((0 : Int)).toNat = 0 from rfl] at hx116_2)
                      (try rw [show 0 * 4 = 0 from rfl] at hx116_2)
                      (try rw [Addr.add_zero'] at hx116_2)
                      (try rw [show ((0 : Int)).toNat = 0 from rfl] at hx116_3)
                      (try rw [show 0 * 4 = 0 from rfl] at hx116_3)
                      (try rw [Addr.add_zero'] at hx116_3)
                      replace p116 := eq_true p116
                      replace q116 := eq_true q116
                      have p117 : 0 ≤ (1 : Int) := (by omega)
                      have q117 : 1 < (t106.length : Int) := of_decide_eq_true (by first | (with_reducible assumption) | assumption)
                      obtain ⟨ad117, e117, hx117_0, hx117_1, hx117_2, hx117_3⟩ := at_T43 (Kd.R_reads' HO_1.out).2.2 1 p117 q117
                      obtain rfl : ad116 = ad117 := (by injection e117)
                      (try simp only [show (1 : Int).toNat = 1 from rfl, Nat.reduceMul, Nat.reduceEqDiff, Go.Addr.add, ↓reduceIte] at hx117_0)
                      (try simp only [show (1 : Int).toNat = 1 from rfl, Nat.reduceMul, Nat.reduceEqDiff, Go.Addr.add, ↓reduceIte] at hx117_1)
                      (try simp only [show (1 : Int).toNat = 1 from rfl, Nat.reduceMul, Nat.reduceEqDiff, Go.Addr.add, ↓reduceIte] at hx117_2)
                      (try simp only [show (1 : Int).toNat = 1 from rfl, Nat.reduceMul, Nat.reduceEqDiff, Go.Addr.add, ↓reduceIte] at hx117_3)
                      have qi117 : (1 < t106.length) = True := eq_true (by omega)
                      (try rw [show ((1 : Int)).toNat = 1 from rfl] at hx117_0)
                      (try rw [show 1 * 4 = 4 from rfl] at hx117_0)
                      (try rw [show ((1 : Int)).toNat = 1 from rfl] at hx117_1)
                      (try rw [show 1 * 4 = 4 from rfl] at hx117_1)
                      (try rw [show ((1 : Int)).toNat = 1 from rfl] at hx117_2)
                      (try rw [show 1 * 4 = 4 from rfl] at hx117_2)
                      (try rw [show ((1 : Int)).toNat = 1 from rfl] at hx117_3)
                      (try rw [show 1 * 4 = 4 from rfl] at hx117_3)
                      replace p117 := eq_true p117
                      replace q117 := eq_true q117
                      have p118 : 0 ≤ (2 : Int) := (by omega)
                      have q118 : 2 < (t106.length : Int) := of_decide_eq_true (by first | (with_reducible assumption) | assumption)
                      obtain ⟨ad118, e118, hx118_0, hx118_1, hx118_2, hx118_3⟩ := at_T43 (Kd.R_reads' HO_1.out).2.2 2 p118 q118
                      obtain rfl : ad116 = ad118 := (by injection e118)
                      (try simp only [show (2 : Int).toNat = 2 from rfl, Nat.reduceMul, Nat.reduceEqDiff, Go.Addr.add, ↓reduceIte] at hx118_0)
                      (try simp only [show (2 : Int).toNat = 2 from rfl, Nat.reduceMul, Nat.reduceEqDiff, Go.Addr.add, ↓reduceIte] at hx118_1)
                      (try simp only [show (2 : Int).toNat = 2 from rfl, Nat.reduceMul, Nat.reduceEqDiff, Go.Addr.add, ↓reduceIte] at hx118_2)
                      (try simp only [show (2 : Int).toNat = 2 from rfl, Nat.reduceMul, Nat.reduceEqDiff, Go.Addr.add, ↓reduceIte] at hx118_3)
                      have qi118 : (2 < t106.length) = True := eq_true (by omega)
                      (try rw [show ((2 : Int)).toNat = 2 from rfl] at hx118_0)
                      (try rw [show 2 * 4 = 8 from rfl] at hx118_0)
                      (try rw [show ((2 : Int)).toNat = 2 from rfl] at hx118_1)
                      (try rw [show 2 * 4 = 8 from rfl] at hx118_1)
                      (try rw [show ((2 : Int)).toNat = 2 from rfl] at hx118_2)
                      (try rw [show 2 * 4 = 8 from rfl] at hx118_2)
                      (try rw [show ((2 : Int)).toNat = 2 from rfl] at hx118_3)
                      (try rw [show 2 * 4 = 8 from rfl] at hx118_3)
                      replace p118 := eq_true p118
                      replace q118 := eq_true q118
                      go_wp2
                      go_meet
                      case rel => exact ⟨_, (false), (by first | rfl | (simp; done) | (simp [*]; done)), H', ⟨by have := HJ2.out; first | omega | exact Nat.le_refl _⟩, ⟨by repeat (first | (with_reducible first | exact HB.out | apply below_alloc | apply pw_below_drewN | apply below_drew1) | exact HB.out)⟩⟩
                  · rw [if_neg c18] at H
                    exact absurd H (by simp)
                · rw [if_neg c17] at H
                  have c17b0 : (((rd_T43 t106 1).f1).toList == ([62, 61] : List UInt8)) = false := beq_eq_false_iff_ne.mpr c17
                  have c17b1 : (((rd_T43 t106 1).f1).toList != ([62, 61] : List UInt8)) = true := bne_iff_ne.mpr c17
                  have H' := Aside0.mk H
                  clear H
                  obtain ⟨Ao34, co34, eo34⟩ := Kd.R_slice HO_1.out
                  subst eo34
                  have p116 : 0 ≤ (0 : Int) := (by omega)
                  have q116 : 0 < (t106.length : Int) := of_decide_eq_true (by first | (with_reducible assumption) | assumption)
                  obtain ⟨ad116, e116, hx116_0, hx116_1, hx116_2, hx116_3⟩ := at_T43 (Kd.R_reads' HO_1.out).2.2 0 p116 q116
                  cases e116
                  have qi116 : (0 < t106.length) = True := eq_true (by omega)
                  (try rw [show ((0 : Int)).toNat = 0 from rfl] at hx116_0)
                  (try rw [show 0 * 4 = 0 from rfl] at hx116_0)
                  (try rw [Addr.add_zero'] at hx116_0)
                  (try rw [show ((0 : Int)).toNat = 0 from rfl] at hx116_1)
                  (try rw [show 0 * 4 = 0 from rfl] at hx116_1)
                  (try rw [Addr.add_zero'] at hx116_1)
                  (try rw [show ((0 : Int)).toNat = 0 from rfl] at hx116_2)
                  (try rw [show 0 * 4 = 0 from rfl] at hx116_2)
                  (try rw [Addr.add_zero'] at hx116_2)
                  (try rw [show ((0 : Int)).toNat = 0 from rfl] at hx116_3)
                  (try rw [show 0 * 4 = 0 from rfl] at hx116_3)
                  (try rw [Addr.add_zero'] at hx116_3)
                  replace p116 := eq_true p116
                  replace q116 := eq_true q116
                  have p117 : 0 ≤ (1 : Int) := (by omega)
                  have q117 : 1 < (t106.length : Int) := of_decide_eq_true (by first | (with_reducible assumption) | assumption)
                  obtain ⟨ad117, e117, hx117_0, hx117_1, hx117_2, hx117_3⟩ := at_T43 (Kd.R_reads' HO_1.out).2.2 1 p117 q117
                  obtain rfl : ad116 = ad117 := (by injection e117)
                  (try simp only [show (1 : Int).toNat = 1 from rfl, Nat.reduceMul, Nat.reduceEqDiff, Go.Addr.add, ↓reduceIte] at hx117_0)
                  (try simp only [show (1 : Int).toNat = 1 from rfl, Nat.reduceMul, Nat.reduceEqDiff, Go.Addr.add, ↓reduceIte] at hx117_1)
                  (try simp only [show (1 : Int).toNat = 1 from rfl, Nat.reduceMul, Nat.reduceEqDiff, Go.Addr.add, ↓reduceIte] at hx117_2)
                  (try simp only [show (1 : Int).toNat = 1 from rfl, Nat.reduceMul, Nat.reduceEqDiff, Go.Addr.add, ↓reduceIte] at hx117_3)
                  have qi117 : (1 < t106.length) = True := eq_true (by omega)
                  (try rw [show ((1 : Int)).toNat = 1 from rfl] at hx117_0)
                  (try rw [show 1 * 4 = 4 from rfl] at hx117_0)
                  (try rw [show ((1 : Int)).toNat = 1 from rfl] at hx117_1)
                  (try rw [show 1 * 4 = 4 from rfl] at hx117_1)
                  (try rw [show ((1 : Int)).toNat = 1 from rfl] at hx117_2)
                  (try rw [show 1 * 4 = 4 from rfl] at hx117_2)
                  (try rw [show ((1 : Int)).toNat = 1 from rfl] at hx117_3)
                  (try rw [show 1 * 4 = 4 from rfl] at hx117_3)
                  replace p117 := eq_true p117
                  replace q117 := eq_true q117
                  go_wp2
                  go_meet
                  case rel => exact ⟨_, (false), (by first | rfl | (simp; done) | (simp [*]; done)), H', ⟨by have := HJ2.out; first | omega | exact Nat.le_refl _⟩, ⟨by repeat (first | (with_reducible first | exact HB.out | apply below_alloc | apply pw_below_drewN | apply below_drew1) | exact HB.out)⟩⟩
              · rw [if_neg c16] at H
                exact absurd H (by simp)
            · rw [if_neg c15] at H
              have c15b0 : (((rd_T43 t106 0).f1).toList == ([97] : List UInt8)) = false := beq_eq_false_iff_ne.mpr c15
              have c15b1 : (((rd_T43 t106 0).f1).toList != ([97] : List UInt8)) = true := bne_iff_ne.mpr c15
              have H' := Aside0.mk H
              clear H
              obtain ⟨Ao35, co35, eo35⟩ := Kd.R_slice HO_1.out
              subst eo35
              have p116 : 0 ≤ (0 : Int) := (by omega)
              have q116 : 0 < (t106.length : Int) := of_decide_eq_true (by first | (with_reducible assumption) | assumption)
              obtain ⟨ad116, e116, hx116_0, hx116_1, hx116_2, hx116_3⟩ := at_T43 (Kd.R_reads' HO_1.out).2.2 0 p116 q116
              cases e116
              have qi116 : (0 < t106.length) = True := eq_true (by omega)
              (try rw [show ((0 : Int)).toNat = 0 from rfl] at hx116_0)
              (try rw [show 0 * 4 = 0 from rfl] at hx116_0)
              (try rw [Addr.add_zero'] at hx116_0)
              (try rw [show ((0 : Int)).toNat = 0 from rfl] at hx116_1)
              (try rw [show 0 * 4 = 0 from rfl] at hx116_1)
              (try rw [Addr.add_zero'] at hx116_1)
              (try rw [show ((0 : Int)).toNat = 0 from rfl] at hx116_2)
              (try rw [show 0 * 4 = 0 from rfl] at hx116_2)
              (try rw [Addr.add_zero'] at hx116_2)
              (try rw [show ((0 : Int)).toNat = 0 from rfl] at hx116_3)
              (try rw [show 0 * 4 = 0 from rfl] at hx116_3)
              (try rw [Addr.add_zero'] at hx116_3)
              replace p116 := eq_true p116
              replace q116 := eq_true q116
              go_wp2
              go_meet
              case rel => exact ⟨_, (false), (by first | rfl | (simp; done) | (simp [*]; done)), H', ⟨by have := HJ2.out; first | omega | exact Nat.le_refl _⟩, ⟨by repeat (first | (with_reducible first | exact HB.out | apply below_alloc | apply pw_below_drewN | apply below_drew1) | exact HB.out)⟩⟩
          · rw [if_neg c14] at H
            exact absurd H (by simp)
        case rest =>
          clear HC13
          try clear c1
          try clear p1
          try clear q1
          try clear hx1
          try clear qi1
          try clear c2
          try clear p2
          try clear p11
          try clear q11
          try clear hx11
          try clear qi11
          try clear p12
          try clear q12
          try clear hx12
          try clear qi12
          try clear c14
          try clear c15
          try clear c15b0
          try clear c15b1
          try clear c16
          try clear c17
          try clear c17b0
          try clear c17b1
          try clear c18
          try clear c19
          try clear c19b0
          try clear c19b1
          try clear c20
          try clear c21
          try clear c21b0
          try clear c21b1
          try clear c22
          try clear c23
          try clear c23b0
          try clear c23b1
          try clear c24
          try clear c25
          try clear c25b0
          try clear c25b1
          try clear hx116_0
          try clear hx116_1
          try clear hx116_2
          try clear hx116_3
          try clear hx117_0
          try clear hx117_1
          try clear hx117_2
          try clear hx117_3
          try clear hx118_0
          try clear hx118_1
          try clear hx118_2
          try clear hx118_3
          try clear hx119_0
          try clear hx119_1
          try clear hx119_2
          try clear hx119_3
          try clear hx120_0
          try clear hx120_1
          try clear hx120_2
          try clear hx120_3
          try clear hx121_0
          try clear hx121_1
          try clear hx121_2
          try clear hx121_3
          try clear hx122_0
          try clear hx122_1
          try clear hx122_2
          try clear hx122_3
          try clear p116
          try clear p117
          try clear p118
          try clear p119
          try clear p120
          try clear p121
          try clear p122
          try clear q116
          try clear q117
          try clear q118
          try clear q119
          try clear q120
          try clear q121
          try clear q122
          obtain ⟨kq, x7_12, rfl, HA, HJ12, HB⟩ := hcut
          cases kq with
          | zero => exact absurd HA.out (by simp [erratalaw17_small.j1])
          | succ kj12 =>
            have H := HA.out
            clear HA
            simp only [erratalaw17_small.j1] at H
            by_cases c36 : x7_12 = true
            · subst c36
              have H1 : ((erratalaw17_bad.f (⟨#[48, 49]⟩ : ByteArray)).bind fun t123 => (if t123 = true then ((erratalaw17_bad.f (⟨#[49, 97]⟩ : ByteArray)).bind fun t124 => (if t124 = true then ((erratalaw17_bad.f (⟨#[33]⟩ : ByteArray)).bind fun t125 => (if t125 = true then ((erratalaw17_bad.f (⟨#[34, 97]⟩ : ByteArray)).bind fun t126 => (some t126)) else (some false))) else (some false))) else (some false))) = some r := by rw [if_pos rfl] at H; exact H
              clear H
              have H := H1
              clear H1
              replace H := Option.bind_eq_some_iff.mp H
              obtain ⟨t123, A370, H⟩ := H
              replace H : (if t123 = true then ((erratalaw17_bad.f (⟨#[49, 97]⟩ : ByteArray)).bind fun t124 => (if t124 = true then ((erratalaw17_bad.f (⟨#[33]⟩ : ByteArray)).bind fun t125 => (if t125 = true then ((erratalaw17_bad.f (⟨#[34, 97]⟩ : ByteArray)).bind fun t126 => (some t126)) else (some false))) else (some false))) else (some false)) = some r := H
              have A37 := Aside0.mk A370
              clear A370
              by_cases c38 : t123 = true
              · subst c38
                have H1 : ((erratalaw17_bad.f (⟨#[49, 97]⟩ : ByteArray)).bind fun t124 => (if t124 = true then ((erratalaw17_bad.f (⟨#[33]⟩ : ByteArray)).bind fun t125 => (if t125 = true then ((erratalaw17_bad.f (⟨#[34, 97]⟩ : ByteArray)).bind fun t126 => (some t126)) else (some false))) else (some false))) = some r := by rw [if_pos rfl] at H; exact H
                clear H
                have H := H1
                clear H1
                replace H := Option.bind_eq_some_iff.mp H
                obtain ⟨t124, A390, H⟩ := H
                replace H : (if t124 = true then ((erratalaw17_bad.f (⟨#[33]⟩ : ByteArray)).bind fun t125 => (if t125 = true then ((erratalaw17_bad.f (⟨#[34, 97]⟩ : ByteArray)).bind fun t126 => (some t126)) else (some false))) else (some false)) = some r := H
                have A39 := Aside0.mk A390
                clear A390
                by_cases c40 : t124 = true
                · subst c40
                  have H1 : ((erratalaw17_bad.f (⟨#[33]⟩ : ByteArray)).bind fun t125 => (if t125 = true then ((erratalaw17_bad.f (⟨#[34, 97]⟩ : ByteArray)).bind fun t126 => (some t126)) else (some false))) = some r := by rw [if_pos rfl] at H; exact H
                  clear H
                  have H := H1
                  clear H1
                  replace H := Option.bind_eq_some_iff.mp H
                  obtain ⟨t125, A410, H⟩ := H
                  replace H : (if t125 = true then ((erratalaw17_bad.f (⟨#[34, 97]⟩ : ByteArray)).bind fun t126 => (some t126)) else (some false)) = some r := H
                  have A41 := Aside0.mk A410
                  clear A410
                  by_cases c42 : t125 = true
                  · subst c42
                    have H1 : ((erratalaw17_bad.f (⟨#[34, 97]⟩ : ByteArray)).bind fun t126 => (some t126)) = some r := by rw [if_pos rfl] at H; exact H
                    clear H
                    have H := H1
                    clear H1
                    replace H := Option.bind_eq_some_iff.mp H
                    obtain ⟨t126, A430, H⟩ := H
                    replace H : (some t126) = some r := H
                    have A43 := Aside0.mk A430
                    clear A430
                    obtain rfl := Option.some.inj H
                    go_wp2_with (first | (go_at_call 57; (with_reducible refine (erratalaw17_bad.calls (⟨#[48, 49]⟩ : ByteArray) true _ ?side1 A37.out).mono ?_); (case side1 => exact envB HE.out (by repeat (first | (with_reducible first | exact HB.out | apply below_alloc | apply pw_below_drewN | apply below_drew1) | exact HB.out))); rintro e w44 ⟨rfl, hb⟩; have n0_ := Aside0.mk (below_step (by repeat (first | (with_reducible first | exact HB.out | apply below_alloc | apply pw_below_drewN | apply below_drew1) | exact HB.out)) hb); clear HB; have HB := n0_; clear n0_; (try clear hb); (try clear hb2); (try clear hk); (try clear hi)) | (go_at_call 57; (with_reducible refine (erratalaw17_bad.calls (⟨#[49, 97]⟩ : ByteArray) true _ ?side1 A39.out).mono ?_); (case side1 => exact envB HE.out (by repeat (first | (with_reducible first | exact HB.out | apply below_alloc | apply pw_below_drewN | apply below_drew1) | exact HB.out))); rintro e w45 ⟨rfl, hb⟩; have n0_ := Aside0.mk (below_step (by repeat (first | (with_reducible first | exact HB.out | apply below_alloc | apply pw_below_drewN | apply below_drew1) | exact HB.out)) hb); clear HB; have HB := n0_; clear n0_; (try clear hb); (try clear hb2); (try clear hk); (try clear hi)) | (go_at_call 57; (with_reducible refine (erratalaw17_bad.calls (⟨#[33]⟩ : ByteArray) true _ ?side1 A41.out).mono ?_); (case side1 => exact envB HE.out (by repeat (first | (with_reducible first | exact HB.out | apply below_alloc | apply pw_below_drewN | apply below_drew1) | exact HB.out))); rintro e w46 ⟨rfl, hb⟩; have n0_ := Aside0.mk (below_step (by repeat (first | (with_reducible first | exact HB.out | apply below_alloc | apply pw_below_drewN | apply below_drew1) | exact HB.out)) hb); clear HB; have HB := n0_; clear n0_; (try clear hb); (try clear hb2); (try clear hk); (try clear hi)) | (go_at_call 57; (with_reducible refine (erratalaw17_bad.calls (⟨#[34, 97]⟩ : ByteArray) t126 _ ?side1 A43.out).mono ?_); (case side1 => exact envB HE.out (by repeat (first | (with_reducible first | exact HB.out | apply below_alloc | apply pw_below_drewN | apply below_drew1) | exact HB.out))); rintro e w47 ⟨rfl, hb⟩; have n0_ := Aside0.mk (below_step (by repeat (first | (with_reducible first | exact HB.out | apply below_alloc | apply pw_below_drewN | apply below_drew1) | exact HB.out)) hb); clear HB; have HB := n0_; clear n0_; (try clear hb); (try clear hb2); (try clear hk); (try clear hi)))
                    go_ret
                    exact ⟨by first | rfl | (simp [errW_none, errW_some] <;> rfl) | (simp [*, errW_none, errW_some] <;> rfl), by repeat (first | (with_reducible first | exact HB.out | apply below_alloc | apply pw_below_drewN | apply below_drew1) | exact HB.out)⟩
                  · replace c42 := Bool.eq_false_iff.mpr c42
                    subst c42
                    have H1 : (some false) = some r := by rw [if_neg (show ¬ (false = true) by decide)] at H; exact H
                    clear H
                    have H := H1
                    clear H1
                    obtain rfl := Option.some.inj H
                    go_wp2_with (first | (go_at_call 57; (with_reducible refine (erratalaw17_bad.calls (⟨#[48, 49]⟩ : ByteArray) true _ ?side1 A37.out).mono ?_); (case side1 => exact envB HE.out (by repeat (first | (with_reducible first | exact HB.out | apply below_alloc | apply pw_below_drewN | apply below_drew1) | exact HB.out))); rintro e w48 ⟨rfl, hb⟩; have n0_ := Aside0.mk (below_step (by repeat (first | (with_reducible first | exact HB.out | apply below_alloc | apply pw_below_drewN | apply below_drew1) | exact HB.out)) hb); clear HB; have HB := n0_; clear n0_; (try clear hb); (try clear hb2); (try clear hk); (try clear hi)) | (go_at_call 57; (with_reducible refine (erratalaw17_bad.calls (⟨#[49, 97]⟩ : ByteArray) true _ ?side1 A39.out).mono ?_); (case side1 => exact envB HE.out (by repeat (first | (with_reducible first | exact HB.out | apply below_alloc | apply pw_below_drewN | apply below_drew1) | exact HB.out))); rintro e w49 ⟨rfl, hb⟩; have n0_ := Aside0.mk (below_step (by repeat (first | (with_reducible first | exact HB.out | apply below_alloc | apply pw_below_drewN | apply below_drew1) | exact HB.out)) hb); clear HB; have HB := n0_; clear n0_; (try clear hb); (try clear hb2); (try clear hk); (try clear hi)) | (go_at_call 57; (with_reducible refine (erratalaw17_bad.calls (⟨#[33]⟩ : ByteArray) false _ ?side1 A41.out).mono ?_); (case side1 => exact envB HE.out (by repeat (first | (with_reducible first | exact HB.out | apply below_alloc | apply pw_below_drewN | apply below_drew1) | exact HB.out))); rintro e w50 ⟨rfl, hb⟩; have n0_ := Aside0.mk (below_step (by repeat (first | (with_reducible first | exact HB.out | apply below_alloc | apply pw_below_drewN | apply below_drew1) | exact HB.out)) hb); clear HB; have HB := n0_; clear n0_; (try clear hb); (try clear hb2); (try clear hk); (try clear hi)))
                    go_ret
                    exact ⟨by first | rfl | (simp [errW_none, errW_some] <;> rfl) | (simp [*, errW_none, errW_some] <;> rfl), by repeat (first | (with_reducible first | exact HB.out | apply below_alloc | apply pw_below_drewN | apply below_drew1) | exact HB.out)⟩
                · replace c40 := Bool.eq_false_iff.mpr c40
                  subst c40
                  have H1 : (some false) = some r := by rw [if_neg (show ¬ (false = true) by decide)] at H; exact H
                  clear H
                  have H := H1
                  clear H1
                  obtain rfl := Option.some.inj H
                  go_wp2_with (first | (go_at_call 57; (with_reducible refine (erratalaw17_bad.calls (⟨#[48, 49]⟩ : ByteArray) true _ ?side1 A37.out).mono ?_); (case side1 => exact envB HE.out (by repeat (first | (with_reducible first | exact HB.out | apply below_alloc | apply pw_below_drewN | apply below_drew1) | exact HB.out))); rintro e w51 ⟨rfl, hb⟩; have n0_ := Aside0.mk (below_step (by repeat (first | (with_reducible first | exact HB.out | apply below_alloc | apply pw_below_drewN | apply below_drew1) | exact HB.out)) hb); clear HB; have HB := n0_; clear n0_; (try clear hb); (try clear hb2); (try clear hk); (try clear hi)) | (go_at_call 57; (with_reducible refine (erratalaw17_bad.calls (⟨#[49, 97]⟩ : ByteArray) false _ ?side1 A39.out).mono ?_); (case side1 => exact envB HE.out (by repeat (first | (with_reducible first | exact HB.out | apply below_alloc | apply pw_below_drewN | apply below_drew1) | exact HB.out))); rintro e w52 ⟨rfl, hb⟩; have n0_ := Aside0.mk (below_step (by repeat (first | (with_reducible first | exact HB.out | apply below_alloc | apply pw_below_drewN | apply below_drew1) | exact HB.out)) hb); clear HB; have HB := n0_; clear n0_; (try clear hb); (try clear hb2); (try clear hk); (try clear hi)))
                  go_ret
                  exact ⟨by first | rfl | (simp [errW_none, errW_some] <;> rfl) | (simp [*, errW_none, errW_some] <;> rfl), by repeat (first | (with_reducible first | exact HB.out | apply below_alloc | apply pw_below_drewN | apply below_drew1) | exact HB.out)⟩
              · replace c38 := Bool.eq_false_iff.mpr c38
                subst c38
                have H1 : (some false) = some r := by rw [if_neg (show ¬ (false = true) by decide)] at H; exact H
                clear H
                have H := H1
                clear H1
                obtain rfl := Option.some.inj H
                go_wp2_with (first | (go_at_call 57; (with_reducible refine (erratalaw17_bad.calls (⟨#[48, 49]⟩ : ByteArray) false _ ?side1 A37.out).mono ?_); (case side1 => exact envB HE.out (by repeat (first | (with_reducible first | exact HB.out | apply below_alloc | apply pw_below_drewN | apply below_drew1) | exact HB.out))); rintro e w53 ⟨rfl, hb⟩; have n0_ := Aside0.mk (below_step (by repeat (first | (with_reducible first | exact HB.out | apply below_alloc | apply pw_below_drewN | apply below_drew1) | exact HB.out)) hb); clear HB; have HB := n0_; clear n0_; (try clear hb); (try clear hb2); (try clear hk); (try clear hi)))
                go_ret
                exact ⟨by first | rfl | (simp [errW_none, errW_some] <;> rfl) | (simp [*, errW_none, errW_some] <;> rfl), by repeat (first | (with_reducible first | exact HB.out | apply below_alloc | apply pw_below_drewN | apply below_drew1) | exact HB.out)⟩
            · replace c36 := Bool.eq_false_iff.mpr c36
              subst c36
              have H1 : (some false) = some r := by rw [if_neg (show ¬ (false = true) by decide)] at H; exact H
              clear H
              have H := H1
              clear H1
              obtain rfl := Option.some.inj H
              go_wp2
              go_ret
              exact ⟨by first | rfl | (simp [errW_none, errW_some] <;> rfl) | (simp [*, errW_none, errW_some] <;> rfl), by repeat (first | (with_reducible first | exact HB.out | apply below_alloc | apply pw_below_drewN | apply below_drew1) | exact HB.out)⟩

end Go.Proofs.YtfefbnfmngdicaaDoor.PX
