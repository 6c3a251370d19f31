/- LexJoins, walked by hand where both strings have tokens. -/
import Derived.Test.YtfefbnfmngdicaaDoorZ1
import Derived.Deep.RegionHeld3
import Derived.Deep.DrawnRows
import Derived.Deep.CutBlock
namespace Go.Proofs.YtfefbnfmngdicaaDoor.PX
set_option linter.unusedVariables false
set_option linter.unusedSimpArgs false
open Go.RowKit Go.Proofs.YtfefbnfmngdicaaDoorW.PrintWords Go.Proofs.YtfefbnfmngdicaaDoorW.PrintLast Go.Proofs.YtfefbnfmngdicaaDoorW.PrintMore
attribute [local go_sem high] eqS43

/-- A row of tokens that is only read. -/
theorem row_form {w : World} {B : Nat} {ok : Nat → Prop} {v : Value} {xs : List S43} {n : Nat} (h : Kd.R k43 43 w B ok v xs) (hn : xs.length = n) (hp : 0 < n) :
    ∃ g cap, v = .slice (some ⟨g, 0, none⟩) n cap ∧ n ≤ cap ∧ Kd.C k43 w (some ⟨g, 0, none⟩) xs.length xs := by
  obtain ⟨g, cap, rfl, _⟩ := Kd.R_form h (by omega)
  obtain ⟨_, h2, h3⟩ := Kd.R_reads' h
  exact ⟨g, cap, by rw [hn], by omega, h3⟩
theorem at_flat {w : World} {g : Nat} {xs : List S43} (h : Kd.C k43 w (some ⟨g, 0, none⟩) xs.length xs) (m : Nat) (hm : m < xs.length) :
    w.cell? ⟨g, m * 4, none⟩ = some (.int .i64 (rd_T43 xs (m : Int)).f0) ∧ w.cell? ⟨g, m * 4 + 1, none⟩ = some (.string (rd_T43 xs (m : Int)).f1) ∧ w.cell? ⟨g, m * 4 + 2, none⟩ = some (.int .i64 (rd_T43 xs (m : Int)).f2) ∧ w.cell? ⟨g, m * 4 + 3, none⟩ = some (.int .i64 (rd_T43 xs (m : Int)).f3) := by
  obtain ⟨ad, e, h0, h1, h2, h3⟩ := at_T43 h (m : Int) (by omega) (by omega)
  cases e
  have ha : ((⟨g, 0, none⟩ : Addr).add (m * 4)) = ⟨g, m * 4, none⟩ := by
    unfold Addr.add
    split
    · rename_i hz; rw [hz]
    · rw [Nat.zero_add]
  simp only [Int.toNat_natCast] at h0 h1 h2 h3
  rw [ha] at h0 h1 h2 h3
  exact ⟨h0, h1, h2, h3⟩

theorem heldB {A B C D E : Prop} (h : A ∧ B ∧ C ∧ D ∧ E) : E := h.2.2.2.2
theorem keep5 {W5 w' : World} {nb : Nat} {l' : Int} (hlt : nb < W5.heap.size) (b0 : W5.cell? ⟨nb, 0, none⟩ = some (.int .i64 4)) (b1 : W5.cell? ⟨nb, 1, none⟩ = some (.string ⟨#[]⟩)) (b2 : W5.cell? ⟨nb, 2, none⟩ = some (.int .i64 0)) (b3 : W5.cell? ⟨nb, 3, none⟩ = some (.int .i64 l')) (h : Below W5.heap.size W5 w') :
    w'.cell? ⟨nb, 0, none⟩ = some (.int .i64 4) ∧ w'.cell? ⟨nb, 1, none⟩ = some (.string ⟨#[]⟩) ∧ w'.cell? ⟨nb, 2, none⟩ = some (.int .i64 0) ∧ w'.cell? ⟨nb, 3, none⟩ = some (.int .i64 l') ∧ Below W5.heap.size W5 w' :=
  ⟨(h.cell (p := ⟨nb, 0, none⟩) hlt).trans b0, (h.cell (p := ⟨nb, 1, none⟩) hlt).trans b1, (h.cell (p := ⟨nb, 2, none⟩) hlt).trans b2, (h.cell (p := ⟨nb, 3, none⟩) hlt).trans b3, h⟩
set_option maxHeartbeats 4000000 in
set_option maxRecDepth 100000 in
theorem joins_w5 (a b : ByteArray) (us0 vs xs zs : List S43) (l' : Int) (n1 n2 n3 m : Nat) (w : World) (hE : Env w) (ha : a.size ≤ 2500) (hb : b.size ≤ 2500)
    (hA : lex_Lex.f a = some (xs, 0, 0)) (hBx : lex_Lex.f b = some (vs, 0, 0)) (hZ : lex_Lex.f ((a ++ (⟨#[10]⟩ : ByteArray)) ++ b) = some (zs, 0, 0))
    (hxl : xs.length = n1) (hvl : vs.length = n2) (hzl : zs.length = n3) (hm : us0.length = m) (h1m : n1 = m + 1) (h3m : n3 = n1 + n2)
    (hx : rd_T43 xs (m : Int) = ⟨5, ⟨#[]⟩, 0, l'⟩) (hz : rd_T43 zs (m : Int) = ⟨4, ⟨#[]⟩, 0, l'⟩) (hxt : xs.take m = us0) (hzt : zs.take m = us0) (hzd : errataref17_Same.f (zs.drop n1) vs l' = some true)
    (hcnt : n1 + b.size + 1 ≤ 3000) (hv : 0 < n2 ∧ n2 ≤ 2501) (hS1 : errataref17_Same.f us0 us0 0 = some true) :
    Calls Tryd.prog 7 #[.string a, .string b] w fun e w' => e = .returned (.bool true) ∧ Below w.heap.size w w' := by
  have HE := Aside0.mk hE
  have HA := Aside0.mk hA
  have HBx := Aside0.mk hBx
  have HZ := Aside0.mk hZ
  have HS1 := Aside0.mk hS1
  have HS2 := Aside0.mk hzd
  have HX := Aside0.mk hx
  have HZm := Aside0.mk hz
  have HXT := Aside0.mk hxt
  have HZT := Aside0.mk hzt
  have d1 : ¬ (2500 : Int) < (a.size : Int) := by omega
  have d2 : ¬ (2500 : Int) < (b.size : Int) := by omega
  have d1' : decide ((2500 : Int) < (a.size : Int)) = false := decide_eq_false d1
  have d2' : decide ((2500 : Int) < (b.size : Int)) = false := decide_eq_false d2
  have e1 : ((n1 : Int) == 0) = false := beq_eq_false_iff_ne.2 (by omega)
  have q1 : IntKind.i64.wrap ((n1 : Int) - 1) = (m : Int) := by rw [w64x (by omega) (by omega)]; omega
  have q2 : IntKind.i64.wrap ((n1 : Int) + (b.size : Int)) = ((n1 + b.size : Nat) : Int) := by rw [w64x (by omega) (by omega)]; omega
  have q4 : IntKind.i64.wrap ((n1 : Int) + (n2 : Int)) = ((n3 : Nat) : Int) := by rw [w64x (by omega) (by omega)]; omega
  have m0 : (0 : Int) ≤ (m : Int) := by omega
  have m1 : (m : Int) < (n1 : Int) := by omega
  have m3 : (m : Int) < (n3 : Int) := by omega
  have HXL := Aside0.mk hxl
  have HVL := Aside0.mk hvl
  have HZL := Aside0.mk hzl
  have HM := Aside0.mk hm
  have H1M := Aside0.mk h1m
  have H3M := Aside0.mk h3m
  have i1 : 1 ≤ n1 := by omega
  have i3 : 1 ≤ n3 := by omega
  have i31 : n1 ≤ n3 := by omega
  have i4 : n1 ≤ 2999 := by omega
  clear hE hA hBx hZ hS1 hzd hx hz hxt hzt hxl hvl hzl hm h1m h3m
  go_enter Tryd.func7, Tryd.ntmps7
  go_wp2_with fail
  refine (erratalaw17_small.calls 10 true _ HE.out (small17 8)).mono ?_
  rintro e w1 ⟨rfl, hb1⟩
  go_wp2_with fail
  have HE1 := Aside0.mk (envB HE.out hb1)
  refine (lex_Lex.calls a xs 0 0 _ HE1.out HA.out).mono ?_
  rintro e w2 ⟨v2, rfl, r2, hb2⟩
  obtain ⟨gA, cA, rfl, hcA, CA⟩ := row_form r2 HXL.out (by omega)
  have hB2 := below_then hb1 hb1.size hb2
  have CA2 := Aside0.mk CA
  clear r2 CA
  go_wp2_with fail
  have HE2 := Aside0.mk (envB HE1.out hb2)
  refine (lex_Lex.calls b vs 0 0 _ HE2.out HBx.out).mono ?_
  rintro e w3 ⟨v3, rfl, r3, hb3⟩
  obtain ⟨gV, cV, rfl, hcV, CV⟩ := row_form r3 HVL.out (by omega)
  have hB3 := below_then hB2 hB2.size hb3
  have CA3 := Aside0.mk (Kd.C_below CA2.out hb3)
  have CV3 := Aside0.mk CV
  clear r3 CV CA2
  go_wp2_with fail
  have HE3 := Aside0.mk (envB HE2.out hb3)
  refine (lex_Lex.calls ((a ++ (⟨#[10]⟩ : ByteArray)) ++ b) zs 0 0 _ HE3.out HZ.out).mono ?_
  rintro e w4 ⟨v4, rfl, r4, hb4⟩
  obtain ⟨gZ, cZ, rfl, hcZ, CZ⟩ := row_form r4 HZL.out (by omega)
  have hB4 := below_then hB3 hB3.size hb4
  have CA4 := Aside0.mk (Kd.C_below CA3.out hb4)
  have CV4 := Aside0.mk (Kd.C_below CV3.out hb4)
  have CZ4 := Aside0.mk CZ
  obtain ⟨_, _, _, xc3⟩ := at_flat CA4.out m (by rw [HXL.out]; omega)
  obtain ⟨zc0, zc1, zc2, zc3⟩ := at_flat CZ4.out m (by rw [HZL.out]; omega)
  rw [HX.out] at xc3
  rw [HZm.out] at zc0 zc1 zc2 zc3
  simp only at xc3 zc0 zc1 zc2 zc3
  clear r4 CZ CA3 CV3 hb1 hb2 hb3 hb4
  go_wp2_with fail
  have hW5 : Below w4.heap.size w4 (w4.alloc (.cells #[.int .i64 4, .string ⟨#[]⟩, .int .i64 0, .int .i64 l'] 43)) := (Below.refl _ _).alloc (Nat.le_refl _) _
  have hbx : (w4.alloc (.cells #[.int .i64 4, .string ⟨#[]⟩, .int .i64 0, .int .i64 l'] 43)).heap[w4.heap.size]? = some (.cells #[.int .i64 4, .string ⟨#[]⟩, .int .i64 0, .int .i64 l'] 43 (0, 0)) := by
    show (w4.heap.push (.cells #[.int .i64 4, .string ⟨#[]⟩, .int .i64 0, .int .i64 l'] 43 (0, 0)))[w4.heap.size]? = _
    exact Array.getElem?_push_size
  clear xc3 zc0 zc1 zc2 zc3
  revert hW5 hbx
  generalize (w4.alloc (.cells #[.int .i64 4, .string ⟨#[]⟩, .int .i64 0, .int .i64 l'] 43)) = W5
  intro hW5 hbx
  have CA5 := Aside0.mk (Kd.C_below CA4.out hW5)
  have CV5 := Aside0.mk (Kd.C_below CV4.out hW5)
  have CZ5 := Aside0.mk (Kd.C_below CZ4.out hW5)
  have hB5 := below_then hB4 hB4.size hW5
  have b0 : W5.cell? ⟨w4.heap.size, 0, none⟩ = some (.int .i64 4) := blk_cell hbx 0
  have b1 : W5.cell? ⟨w4.heap.size, 1, none⟩ = some (.string ⟨#[]⟩) := blk_cell hbx 1
  have b2 : W5.cell? ⟨w4.heap.size, 2, none⟩ = some (.int .i64 0) := blk_cell hbx 2
  have b3 : W5.cell? ⟨w4.heap.size, 3, none⟩ = some (.int .i64 l') := blk_cell hbx 3
  have hlt5 : w4.heap.size < W5.heap.size := blk_lt hbx
  obtain ⟨i0, hi0, _, hsz, _⟩ := info_parts info43
  have cut1 := cut_to (P := Tryd.prog) 38 43 .i64 Tryd.underlying38 hi0 (some ⟨gZ, 0, none⟩) n3 cZ (m : Int) m0 (by omega) hcZ
  have cut2 := cut_to (P := Tryd.prog) 38 43 .i64 Tryd.underlying38 hi0 (some ⟨gA, 0, none⟩) n1 cA (m : Int) m0 (by omega) hcA
  have cut3 := cut_from (P := Tryd.prog) 38 43 .i64 Tryd.underlying38 hi0 4 hsz (some ⟨gZ, 0, none⟩) n3 cZ (n1 : Int) (by omega) (by omega)
  have CT1 := Kd.C_take (m := m) CZ5.out (by rw [HZL.out]; omega)
  have CT2 := Kd.C_take (m := m) CA5.out (by rw [HXL.out]; omega)
  have CT3 := Kd.C_drop (m := n1) (c := cZ) CZ5.out (by rw [HZL.out]; omega) (by rw [HZL.out]; omega)
  rw [HZT.out] at CT1
  rw [HXT.out] at CT2
  rw [Int.toNat_natCast] at cut1 cut2
  rw [Int.toNat_natCast] at cut3
  have CT3' := CT3
  rw [show k43.sz = 4 from rfl] at CT3'
  revert cut3 CT3'
  generalize (if cZ = n1 then some (⟨gZ, 0, none⟩ : Addr) else (some (⟨gZ, 0, none⟩ : Addr)).map (·.add (n1 * 4))) = AZ
  intro cut3 CT3'
  clear CT3
  have call1 : ∀ W' : World, Below W5.heap.size W5 W' → Calls Tryd.prog 28 #[.slice (some ⟨gZ, 0, none⟩) m cZ, .slice (some ⟨gA, 0, none⟩) m cA, .int .i64 0] W' fun e w' => e = .returned (.bool true) ∧ Below W'.heap.size W' w' := by
    intro W' h
    have := errataref17_Same.calls (some ⟨gZ, 0, none⟩) cZ us0 (some ⟨gA, 0, none⟩) cA us0 0 true W' (Kd.C_below CT1 h) (by rw [HM.out]; omega) (Kd.C_below CT2 h) (by rw [HM.out]; omega) HS1.out
    rw [HM.out] at this
    exact this
  have call2 : ∀ W' : World, Below W5.heap.size W5 W' → Calls Tryd.prog 28 #[.slice AZ (n3 - n1) (cZ - n1), .slice (some ⟨gV, 0, none⟩) n2 cV, .int .i64 l'] W' fun e w' => e = .returned (.bool true) ∧ Below W'.heap.size W' w' := by
    intro W' h
    have hl : (zs.drop n1).length = n3 - n1 := by rw [List.length_drop, HZL.out]
    have := errataref17_Same.calls AZ (cZ - n1) (zs.drop n1) (some ⟨gV, 0, none⟩) cV vs l' true W' (Kd.C_below CT3' h) (by rw [hl]; omega) (Kd.C_below CV5.out h) (by rw [HVL.out]; omega) HS2.out
    rw [hl, HVL.out] at this
    exact this
  go_region_held3 (fun w' => w'.cell? ⟨w4.heap.size, 0, none⟩ = some (.int .i64 4) ∧ w'.cell? ⟨w4.heap.size, 1, none⟩ = some (.string ⟨#[]⟩) ∧ w'.cell? ⟨w4.heap.size, 2, none⟩ = some (.int .i64 0) ∧ w'.cell? ⟨w4.heap.size, 3, none⟩ = some (.int .i64 l') ∧ Below W5.heap.size W5 w') ((refine keep5 hlt5 b0 b1 b2 b3 ?_; first | exact below_drew1 (Below.refl _ _) | exact below_drew1 (by assumption) | (go_split_ands; exact below_step (by assumption) (by assumption)))) (first | (go_at_call_of 28 (Value.slice (some ⟨gZ, 0, none⟩) m cZ); refine (call1 _ (heldB (by assumption))).mono ?_; rintro e w6 ⟨rfl, hb6⟩) | (go_at_call_of 28 (Value.slice AZ (n3 - n1) (cZ - n1)); refine (call2 _ (heldB (by assumption))).mono ?_; rintro e w6 ⟨rfl, hb6⟩))
  all_goals go_wp2_with fail
  all_goals go_ret
  all_goals exact ⟨rfl, below_step hB5 (heldB (by assumption))⟩
set_option maxHeartbeats 4000000 in
set_option maxRecDepth 100000 in
theorem joins_w1 (a b : ByteArray) (w : World) (hE : Env w) (hs : 2500 < a.size) :
    Calls Tryd.prog 7 #[.string a, .string b] w fun e w' => e = .returned (.bool true) ∧ Below w.heap.size w w' := by
  have HE := Aside0.mk hE
  have d1 : (2500 : Int) < (a.size : Int) := by omega
  have d1' : decide ((2500 : Int) < (a.size : Int)) = true := decide_eq_true d1
  clear hE
  go_enter Tryd.func7, Tryd.ntmps7
  go_wp2_with fail
  refine (erratalaw17_small.calls 10 true _ HE.out (small17 8)).mono ?_
  rintro e w1 ⟨rfl, hb1⟩
  go_wp2_with fail
  go_ret
  exact ⟨rfl, hb1⟩
set_option maxHeartbeats 4000000 in
set_option maxRecDepth 100000 in
theorem joins_w1b (a b : ByteArray) (w : World) (hE : Env w) (ha : a.size ≤ 2500) (hs : 2500 < b.size) :
    Calls Tryd.prog 7 #[.string a, .string b] w fun e w' => e = .returned (.bool true) ∧ Below w.heap.size w w' := by
  have HE := Aside0.mk hE
  have d1 : ¬ (2500 : Int) < (a.size : Int) := by omega
  have d1' : decide ((2500 : Int) < (a.size : Int)) = false := decide_eq_false d1
  have d2 : (2500 : Int) < (b.size : Int) := by omega
  have d2' : decide ((2500 : Int) < (b.size : Int)) = true := decide_eq_true d2
  clear hE
  go_enter Tryd.func7, Tryd.ntmps7
  go_wp2_with fail
  refine (erratalaw17_small.calls 10 true _ HE.out (small17 8)).mono ?_
  rintro e w1 ⟨rfl, hb1⟩
  go_wp2_with fail
  go_ret
  exact ⟨rfl, hb1⟩
set_option maxHeartbeats 4000000 in
set_option maxRecDepth 100000 in
theorem joins_w2 (a b : ByteArray) (xs vs : List S43) (e0 q0 f m0 : Int) (w : World) (hE : Env w) (ha : a.size ≤ 2500) (hb : b.size ≤ 2500) (he : e0 ≠ 0)
    (hA : lex_Lex.f a = some (xs, e0, q0)) (hBx : lex_Lex.f b = some (vs, f, m0)) :
    Calls Tryd.prog 7 #[.string a, .string b] w fun e w' => e = .returned (.bool true) ∧ Below w.heap.size w w' := by
  have HE := Aside0.mk hE
  have HA := Aside0.mk hA
  have HBx := Aside0.mk hBx
  have d1 : ¬ (2500 : Int) < (a.size : Int) := by omega
  have d2 : ¬ (2500 : Int) < (b.size : Int) := by omega
  have d1' : decide ((2500 : Int) < (a.size : Int)) = false := decide_eq_false d1
  have d2' : decide ((2500 : Int) < (b.size : Int)) = false := decide_eq_false d2
  have e1 : (e0 != 0) = true := bne_iff_ne.2 he
  clear hE hA hBx he
  go_enter Tryd.func7, Tryd.ntmps7
  go_wp2_with fail
  refine (erratalaw17_small.calls 10 true _ HE.out (small17 8)).mono ?_
  rintro e w1 ⟨rfl, hb1⟩
  go_wp2_with fail
  have HE1 := Aside0.mk (envB HE.out hb1)
  refine (lex_Lex.calls a xs e0 q0 _ HE1.out HA.out).mono ?_
  rintro e w2 ⟨v2, rfl, r2, hb2⟩
  have hB2 := below_then hb1 hb1.size hb2
  clear r2
  go_wp2_with fail
  have HE2 := Aside0.mk (envB HE1.out hb2)
  refine (lex_Lex.calls b vs f m0 _ HE2.out HBx.out).mono ?_
  rintro e w3 ⟨v3, rfl, r3, hb3⟩
  have hB3 := below_then hB2 hB2.size hb3
  clear r3
  go_wp2_with fail
  go_ret
  exact ⟨rfl, hB3⟩
set_option maxHeartbeats 4000000 in
set_option maxRecDepth 100000 in
theorem joins_w3 (a b : ByteArray) (xs vs zs : List S43) (f p0 g p1 l' : Int) (n1 m : Nat) (w : World) (hE : Env w) (ha : a.size ≤ 2500) (hb : b.size ≤ 2500)
    (hA : lex_Lex.f a = some (xs, 0, 0)) (hBx : lex_Lex.f b = some (vs, f, p0)) (hZ : lex_Lex.f ((a ++ (⟨#[10]⟩ : ByteArray)) ++ b) = some (zs, g, p1))
    (hxl : xs.length = n1) (h1m : n1 = m + 1) (hx : rd_T43 xs (m : Int) = ⟨5, ⟨#[]⟩, 0, l'⟩) (hn : n1 ≤ 2999) (hbig : 3000 < n1 + b.size + 1) :
    Calls Tryd.prog 7 #[.string a, .string b] w fun e w' => e = .returned (.bool true) ∧ Below w.heap.size w w' := by
  have HE := Aside0.mk hE
  have HA := Aside0.mk hA
  have HBx := Aside0.mk hBx
  have d1 : ¬ (2500 : Int) < (a.size : Int) := by omega
  have d2 : ¬ (2500 : Int) < (b.size : Int) := by omega
  have d1' : decide ((2500 : Int) < (a.size : Int)) = false := decide_eq_false d1
  have d2' : decide ((2500 : Int) < (b.size : Int)) = false := decide_eq_false d2
  have HZ := Aside0.mk hZ
  have HXL := Aside0.mk hxl
  have i4 : n1 ≤ 2999 := by omega
  have e1 : ((n1 : Int) == 0) = false := beq_eq_false_iff_ne.2 (by omega)
  have q1 : IntKind.i64.wrap ((n1 : Int) - 1) = (m : Int) := by rw [w64x (by omega) (by omega)]; omega
  have q2 : IntKind.i64.wrap ((n1 : Int) + (b.size : Int)) = ((n1 + b.size : Nat) : Int) := by rw [w64x (by omega) (by omega)]; omega
  have m0 : (0 : Int) ≤ (m : Int) := by omega
  have m1 : (m : Int) < (n1 : Int) := by omega
  have HX := Aside0.mk hx
  have i1 : 1 ≤ n1 := by omega
  have i5 : m < n1 := by omega
  have q3 : (3000 : Int) < ((n1 + b.size : Nat) : Int) + 1 := by omega
  have q4 : (3000 : Int) < (n1 : Int) + (b.size : Int) + 1 := by omega
  clear hE hA hBx hZ hxl h1m hx hbig
  go_enter Tryd.func7, Tryd.ntmps7
  go_wp2_with fail
  refine (erratalaw17_small.calls 10 true _ HE.out (small17 8)).mono ?_
  rintro e w1 ⟨rfl, hb1⟩
  go_wp2_with fail
  have HE1 := Aside0.mk (envB HE.out hb1)
  refine (lex_Lex.calls a xs 0 0 _ HE1.out HA.out).mono ?_
  rintro e w2 ⟨v2, rfl, r2, hb2⟩
  obtain ⟨gA, cA, rfl, hcA, CA⟩ := row_form r2 HXL.out (by omega)
  have hB2 := below_then hb1 hb1.size hb2
  have CA2 := Aside0.mk CA
  clear r2 CA
  go_wp2_with fail
  have HE2 := Aside0.mk (envB HE1.out hb2)
  refine (lex_Lex.calls b vs f p0 _ HE2.out HBx.out).mono ?_
  rintro e w3 ⟨v3, rfl, r3, hb3⟩
  have hB3 := below_then hB2 hB2.size hb3
  have CA3 := Aside0.mk (Kd.C_below CA2.out hb3)
  clear r3 CA2
  go_wp2_with fail
  have HE3 := Aside0.mk (envB HE2.out hb3)
  refine (lex_Lex.calls ((a ++ (⟨#[10]⟩ : ByteArray)) ++ b) zs g p1 _ HE3.out HZ.out).mono ?_
  rintro e w4 ⟨v4, rfl, r4, hb4⟩
  have hB4 := below_then hB3 hB3.size hb4
  have CA4 := Aside0.mk (Kd.C_below CA3.out hb4)
  obtain ⟨_, _, _, xc3⟩ := at_flat CA4.out m (by rw [HXL.out]; omega)
  rw [HX.out] at xc3
  simp only at xc3
  clear r4 CA3 hb1 hb2 hb3 hb4
  go_wp2_with fail
  go_ret
  exact ⟨rfl, hB4⟩
set_option maxHeartbeats 4000000 in
set_option maxRecDepth 100000 in
theorem joins_w4 (a b : ByteArray) (xs vs zs : List S43) (f p0 g p1 l' : Int) (n1 m : Nat) (w : World) (hE : Env w) (ha : a.size ≤ 2500) (hb : b.size ≤ 2500)
    (hA : lex_Lex.f a = some (xs, 0, 0)) (hBx : lex_Lex.f b = some (vs, f, p0)) (hZ : lex_Lex.f ((a ++ (⟨#[10]⟩ : ByteArray)) ++ b) = some (zs, g, p1))
    (hxl : xs.length = n1) (h1m : n1 = m + 1) (hx : rd_T43 xs (m : Int) = ⟨5, ⟨#[]⟩, 0, l'⟩) (hn : n1 ≤ 2999) (hsm : n1 + b.size + 1 ≤ 3000) (hf : f ≠ 0) (hg : g = f) (hp : p1 = p0 + l') (hp0 : 0 ≤ p0 ∧ p0 ≤ 100000) (hl0 : 0 ≤ l' ∧ l' ≤ 100000) :
    Calls Tryd.prog 7 #[.string a, .string b] w fun e w' => e = .returned (.bool true) ∧ Below w.heap.size w w' := by
  subst hg hp
  have HE := Aside0.mk hE
  have HA := Aside0.mk hA
  have HBx := Aside0.mk hBx
  have d1 : ¬ (2500 : Int) < (a.size : Int) := by omega
  have d2 : ¬ (2500 : Int) < (b.size : Int) := by omega
  have d1' : decide ((2500 : Int) < (a.size : Int)) = false := decide_eq_false d1
  have d2' : decide ((2500 : Int) < (b.size : Int)) = false := decide_eq_false d2
  have HZ := Aside0.mk hZ
  have HXL := Aside0.mk hxl
  have i4 : n1 ≤ 2999 := by omega
  have e1 : ((n1 : Int) == 0) = false := beq_eq_false_iff_ne.2 (by omega)
  have q1 : IntKind.i64.wrap ((n1 : Int) - 1) = (m : Int) := by rw [w64x (by omega) (by omega)]; omega
  have q2 : IntKind.i64.wrap ((n1 : Int) + (b.size : Int)) = ((n1 + b.size : Nat) : Int) := by rw [w64x (by omega) (by omega)]; omega
  have m0 : (0 : Int) ≤ (m : Int) := by omega
  have m1 : (m : Int) < (n1 : Int) := by omega
  have HX := Aside0.mk hx
  have i1 : 1 ≤ n1 := by omega
  have i5 : m < n1 := by omega
  have q3 : ¬ (3000 : Int) < ((n1 + b.size : Nat) : Int) + 1 := by omega
  have q4 : ¬ (3000 : Int) < (n1 : Int) + (b.size : Int) + 1 := by omega
  have q5 : (g != 0) = true := bne_iff_ne.2 hf
  have q6 : (g == g) = true := beq_self_eq_true g
  have q7 : IntKind.i64.wrap (p0 + l') = p0 + l' := w64x (by omega) (by omega)
  clear hE hA hBx hZ hxl h1m hx hsm hf
  go_enter Tryd.func7, Tryd.ntmps7
  go_wp2_with fail
  refine (erratalaw17_small.calls 10 true _ HE.out (small17 8)).mono ?_
  rintro e w1 ⟨rfl, hb1⟩
  go_wp2_with fail
  have HE1 := Aside0.mk (envB HE.out hb1)
  refine (lex_Lex.calls a xs 0 0 _ HE1.out HA.out).mono ?_
  rintro e w2 ⟨v2, rfl, r2, hb2⟩
  obtain ⟨gA, cA, rfl, hcA, CA⟩ := row_form r2 HXL.out (by omega)
  have hB2 := below_then hb1 hb1.size hb2
  have CA2 := Aside0.mk CA
  clear r2 CA
  go_wp2_with fail
  have HE2 := Aside0.mk (envB HE1.out hb2)
  refine (lex_Lex.calls b vs g p0 _ HE2.out HBx.out).mono ?_
  rintro e w3 ⟨v3, rfl, r3, hb3⟩
  have hB3 := below_then hB2 hB2.size hb3
  have CA3 := Aside0.mk (Kd.C_below CA2.out hb3)
  clear r3 CA2
  go_wp2_with fail
  have HE3 := Aside0.mk (envB HE2.out hb3)
  refine (lex_Lex.calls ((a ++ (⟨#[10]⟩ : ByteArray)) ++ b) zs g (p0 + l') _ HE3.out HZ.out).mono ?_
  rintro e w4 ⟨v4, rfl, r4, hb4⟩
  have hB4 := below_then hB3 hB3.size hb4
  have CA4 := Aside0.mk (Kd.C_below CA3.out hb4)
  obtain ⟨_, _, _, xc3⟩ := at_flat CA4.out m (by rw [HXL.out]; omega)
  rw [HX.out] at xc3
  simp only at xc3
  clear r4 CA3 hb1 hb2 hb3 hb4
  go_wp2_with fail
  go_ret
  exact ⟨rfl, hB4⟩
theorem rd_last (us0 : List S43) (l' : Int) : rd_T43 (us0 ++ [(⟨5, bs [], 0, l'⟩ : S43)]) (us0.length : Int) = ⟨5, ⟨#[]⟩, 0, l'⟩ := by
  rw [rd_43 _ _ (by rw [List.length_append, List.length_singleton]; omega), List.getElem_append_right (Nat.le_refl _)]
  simp [bs]
/-- LexJoins answers true, whatever the strings are. -/
theorem joins_true (a b : ByteArray) (w : World) (hE : Env w) : Calls Tryd.prog 7 #[.string a, .string b] w fun e w' => e = .returned (.bool true) ∧ Below w.heap.size w w' := by
  by_cases h1 : 2500 < a.size
  · exact joins_w1 a b w hE h1
  by_cases h2 : 2500 < b.size
  · exact joins_w1b a b w hE (by omega) h2
  have hla : a.data.toList.length ≤ 2500 := by rw [sz_toList]; omega
  have hlb : b.data.toList.length ≤ 2500 := by rw [sz_toList]; omega
  have hbl : b.data.toList.length = b.size := sz_toList b
  have hjl : ((a ++ (⟨#[10]⟩ : ByteArray)) ++ b).data.toList = a.data.toList ++ 10 :: b.data.toList := by
    rw [app_list, app_list, List.append_assoc]; rfl
  have hs10 : (⟨#[10]⟩ : ByteArray).size = 1 := rfl
  have hjs : ((a ++ (⟨#[10]⟩ : ByteArray)) ++ b).size = a.size + 1 + b.size := by rw [ByteArray.size_append, ByteArray.size_append, hs10]
  rcases ea : lexN a.data.toList 1 0 with ⟨e, n⟩ | us
  · have he := lexN_errline (a.data.toList.length + 1) _ _ _ _ _ (by omega) ea
    rcases eb : lexN b.data.toList 1 0 with ⟨e2, n2⟩ | vs
    · exact joins_w2 a b _ _ e n e2 n2 w hE (by omega) (by omega) (by omega) (lexF_err a _ rfl (by omega) e n ea) (lexF_err b _ rfl (by omega) e2 n2 eb)
    · exact joins_w2 a b _ _ e n 0 0 w hE (by omega) (by omega) (by omega) (lexF_err a _ rfl (by omega) e n ea) (lexF_ok b _ rfl (by omega) vs eb)
  · have hcount := lexN_count (a.data.toList.length + 1) _ _ _ us (by omega) ea
    have hlines := lexN_lines (a.data.toList.length + 1) _ _ _ us (by omega) ea
    obtain ⟨us0, l', hus, hj⟩ := lexN_join b.data.toList (a.data.toList.length + 1) _ _ _ us (by omega) ea
    have hl' : 1 ≤ l' ∧ l' ≤ 1 + a.data.toList.length := hlines ⟨5, bs [], 0, l'⟩ (by rw [hus]; exact List.mem_append_right _ List.mem_cons_self)
    have hux : us.length = us0.length + 1 := by rw [hus, List.length_append, List.length_singleton]
    have hrx : rd_T43 us (us0.length : Int) = ⟨5, ⟨#[]⟩, 0, l'⟩ := by rw [hus]; exact rd_last us0 l'
    have hb0 : ∀ u ∈ us0, 0 ≤ u.f3 ∧ u.f3 ≤ 1000000 := fun u hu => by
      have := hlines u (by rw [hus]; exact List.mem_append_left _ hu); omega
    rw [Nat.zero_add] at hj
    have hA := lexF_ok a _ rfl (by omega) us ea
    by_cases hbig : 3000 < us.length + b.size + 1
    · have hZ := lexF _ _ hjl (by rw [hjs]; omega)
      rcases eb : lexN b.data.toList 1 0 with ⟨e2, n2⟩ | vs
      · exact joins_w3 a b us _ _ e2 n2 _ _ l' us.length us0.length w hE (by omega) (by omega) hA (lexF_err b _ rfl (by omega) e2 n2 eb) hZ rfl hux hrx (by omega) hbig
      · exact joins_w3 a b us _ _ 0 0 _ _ l' us.length us0.length w hE (by omega) (by omega) hA (lexF_ok b _ rfl (by omega) vs eb) hZ rfl hux hrx (by omega) hbig
    · have hsh : lexN b.data.toList (l' + 1) us.length = shE l' (lexN b.data.toList 1 0) := by
        rw [lexN_sameC (b.data.toList.length + 1) b.data.toList (l' + 1) us.length 0 (by omega) (by omega) (by omega), Int.add_comm l' 1]
        exact lexN_shift l' (b.data.toList.length + 1) _ _ _ (by omega)
      rw [hsh] at hj
      rcases eb : lexN b.data.toList 1 0 with ⟨e2, n2⟩ | vs
      · have he2 := lexN_errline (b.data.toList.length + 1) _ _ _ _ _ (by omega) eb
        rw [eb] at hj
        exact joins_w4 a b us [] [] e2 n2 e2 (n2 + l') l' us.length us0.length w hE (by omega) (by omega) hA (lexF_err b _ rfl (by omega) e2 n2 eb) (lexF_err _ _ hjl (by rw [hjs]; omega) e2 (n2 + l') hj) rfl hux hrx (by omega) (by omega) (by omega) rfl rfl (by omega) (by omega)
      · have hcv := lexN_count (b.data.toList.length + 1) _ _ _ vs (by omega) eb
        have hlv := lexN_lines (b.data.toList.length + 1) _ _ _ vs (by omega) eb
        rw [eb] at hj
        have hzl : (us0 ++ (⟨4, bs [], 0, l'⟩ : S43) :: vs.map (shS l')).length = us0.length + (vs.length + 1) := by rw [List.length_append, List.length_cons, List.length_map]
        have hrz : rd_T43 (us0 ++ (⟨4, bs [], 0, l'⟩ : S43) :: vs.map (shS l')) (us0.length : Int) = ⟨4, ⟨#[]⟩, 0, l'⟩ := by
          rw [rd_43 _ _ (by rw [hzl]; omega), List.getElem_append_right (Nat.le_refl _)]
          simp [bs]
        have hzd : (us0 ++ (⟨4, bs [], 0, l'⟩ : S43) :: vs.map (shS l')).drop us.length = vs.map (shS l') := by
          rw [List.append_cons, hux]
          exact List.drop_left' (by rw [List.length_append, List.length_singleton])
        exact joins_w5 a b us0 vs us _ l' us.length vs.length _ us0.length w hE (by omega) (by omega) hA (lexF_ok b _ rfl (by omega) vs eb) (lexF_ok _ _ hjl (by rw [hjs]; omega) _ hj) rfl rfl rfl rfl hux (by rw [hzl, hux]; omega) hrx hrz
          (by rw [hus, List.take_append_of_le_length (Nat.le_refl _), List.take_length]) (by rw [List.take_append_of_le_length (Nat.le_refl _), List.take_length])
          (by rw [hzd]; exact same_sh vs l' (by omega) (fun y hy => by have := hlv y hy; omega)) (by omega) ⟨by omega, by omega⟩ (same_eq us0 (by omega) hb0)
end Go.Proofs.YtfefbnfmngdicaaDoor.PX
