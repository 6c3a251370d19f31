/- errataref17.Same, walked by hand, in the printed functions' own form. -/
import Derived.Test.YtfefbnfmngdicaaDoorX1
import Derived.Test.YtfefbnfmngdicaaDoorPlain
import Derived.Test.YtfefbnfmngdicaaDoorPX0
import Derived.Deep.LoopGhost
import Derived.Deep.QuietTactic
import Derived.BigQuiet
namespace Go.Proofs.YtfefbnfmngdicaaDoor.PX
set_option linter.unusedVariables false
set_option linter.unusedSimpArgs false
open Go.RowKit Go.Proofs.YtfefbnfmngdicaaDoorW.PrintWords Go.Proofs.YtfefbnfmngdicaaDoorW.PrintLast Go.Proofs.YtfefbnfmngdicaaDoorW.PrintMore

def eqS (x y : S43) (d : Int) : Bool := x.f0 == y.f0 && (x.f1.toList == y.f1.toList && (x.f2 == y.f2 && (x.f3 == wrap64 (y.f3 + d))))
def sameB : List S43 → List S43 → Int → Bool
  | [], [], _ => true
  | x :: xs, y :: ys, d => eqS x y d && sameB xs ys d
  | _, _, _ => false
theorem sameB_len : ∀ (xs ys : List S43) (d : Int), xs.length ≠ ys.length → sameB xs ys d = false
  | [], [], _, h => absurd rfl h
  | [], _ :: _, _, _ => rfl
  | _ :: _, [], _, _ => rfl
  | x :: xs, y :: ys, d, h => by
    rw [sameB, sameB_len xs ys d (fun e => h (by rw [List.length_cons, List.length_cons, e])), Bool.and_false]

theorem eqS43 (d : Nat) (w : World) (x0 y0 : Int) (x1 y1 : ByteArray) (x2 y2 : Int) (x3 y3 : Int) :
    (Op.equalIn (d + 2) 43 (.agg #[.int .i64 x0, .string x1, .int .i64 x2, .int .i64 x3]) (.agg #[.int .i64 y0, .string y1, .int .i64 y2, .int .i64 y3])).run Tryd.prog w = .ok (x0 == y0 && (x1.toList == y1.toList && (x2 == y2 && (x3 == y3)))) w := by
  refine eqA_of Tryd.underlying43 (by kernel_rfl) ?_
  refine eqf_cons (by rfl) (by go_simp; rfl) (by go_simp; rfl) (by go_simp) ?_
  refine eqf_cons (by rfl) (by go_simp; rfl) (by go_simp; rfl) (by go_simp) ?_
  refine eqf_cons (by rfl) (by go_simp; rfl) (by go_simp; rfl) (by go_simp) ?_
  exact eqf_last (by rfl) (by go_simp; rfl) (by go_simp; rfl) (by go_simp)
attribute [local go_sem high] eqS43
set_option maxHeartbeats 2000000 in
set_option maxRecDepth 100000 in
theorem same_ne (A0 : Option Addr) (c0 n0 : Nat) (A1 : Option Addr) (c1 n1 : Nat) (a2 : Int) (w : World) (hn : n0 ≠ n1) :
    Calls Tryd.prog 28 #[.slice A0 n0 c0, .slice A1 n1 c1, .int .i64 a2] w fun e w' => e = .returned (.bool false) ∧ Below w.heap.size w w' := by
  have e1 : ((n0 : Int) != (n1 : Int)) = true := bne_iff_ne.2 (fun h => hn (by omega))
  clear hn
  go_enter Tryd.func28, Tryd.ntmps28
  go_wp2_with fail
  go_ret
  exact ⟨rfl, Below.refl _ _⟩
set_option maxHeartbeats 2000000 in
set_option maxRecDepth 100000 in
theorem same_any (A0 : Option Addr) (c0 : Nat) (l0 : List S43) (A1 : Option Addr) (c1 : Nat) (l1 : List S43) (a2 : Int) (w : World) (hr0 : Kd.C k43 w A0 l0.length l0) (hr1 : Kd.C k43 w A1 l1.length l1) (hn : l0.length = l1.length) (hl : l0.length ≤ 1000000) :
    Calls Tryd.prog 28 #[.slice A0 l0.length c0, .slice A1 l1.length c1, .int .i64 a2] w fun e w' => e = .returned (.bool (sameB l0 l1 a2)) ∧ Below w.heap.size w w' := by
  have HR0 := Aside0.mk hr0
  have HR1 := Aside0.mk hr1
  have hn1 : l0.length ≤ l1.length := Nat.le_of_eq hn
  have hn2 : l1.length ≤ l0.length := Nat.le_of_eq hn.symm
  clear hr0 hr1
  have e1 : ((l0.length : Int) != (l1.length : Int)) = false := bne_eq_false_iff_eq.2 (by omega)
  clear hn
  go_enter Tryd.func28, Tryd.ntmps28
  go_wp2_with fail
  go_loopg [7] l0.length (fun n v7 wr => ∃ k : Nat, n = l0.length - k ∧ v7 = .int .i64 k ∧ k ≤ l0.length ∧ Aside0 (sameB (l0.drop k) (l1.drop k) a2 = sameB l0 l1 a2) ∧ Below w.heap.size w wr)
  case atStart => exact ⟨0, rfl, rfl, Nat.zero_le _, ⟨rfl⟩, Below.refl _ _⟩
  case round =>
    obtain ⟨k, rfl, rfl, hk, hq, hB⟩ := hrel
    by_cases hlt : k < l0.length
    · obtain ⟨ad0, f0, g0, g1, g2, g3⟩ := at_T43 HR0.out (k : Int) (by omega) (by omega)
      obtain ⟨ad1, f1, h0, h1, h2, h3⟩ := at_T43 HR1.out (k : Int) (by omega) (by omega)
      cases f0
      cases f1
      have hd0 : l0.drop k = l0[k] :: l0.drop (k + 1) := List.drop_eq_getElem_cons hlt
      have hd1 : l1.drop k = l1[k]'(by omega) :: l1.drop (k + 1) := List.drop_eq_getElem_cons (by omega)
      have rd0 : rd_T43 l0 (k : Int) = l0[k] := by simp [rd_T43, List.getD_eq_getElem?_getD, hlt]
      have rd1 : rd_T43 l1 (k : Int) = l1[k]'(by omega) := by simp [rd_T43, List.getD_eq_getElem?_getD, show k < l1.length by omega]
      have hq1 := hq.out
      rw [hd0, hd1, sameB] at hq1
      have HQ := Aside0.mk hq1
      have g0 := pw_cell_below hB g0
      have g1 := pw_cell_below hB g1
      have g2 := pw_cell_below hB g2
      have g3 := pw_cell_below hB g3
      have h0 := pw_cell_below hB h0
      have h1 := pw_cell_below hB h1
      have h2 := pw_cell_below hB h2
      have h3 := pw_cell_below hB h3
      rw [rd0] at g0 g1 g2 g3
      rw [rd1] at h0 h1 h2 h3
      simp only [Int.toNat_natCast] at g0 g1 g2 g3 h0 h1 h2 h3
      clear hq hq1 hd0 hd1 rd0 rd1
      revert HQ g0 g1 g2 g3 h0 h1 h2 h3
      generalize l0[k] = x
      generalize (l1[k]'(by omega)) = y
      rcases x with ⟨x0, x1, x2, x3⟩
      rcases y with ⟨y0, y1, y2, y3⟩
      intro HQ g0 g1 g2 g3 h0 h1 h2 h3
      simp only at g0 g1 g2 g3 h0 h1 h2 h3
      go_upto_region 8 with fail
      have hzw : Aside0 (wrap64 (y3 + a2) = wrap64 (y3 + a2)) := ⟨rfl⟩
      have hB2 : Below w.heap.size w (wr.alloc (.cells #[.int .i64 y0, .string y1, .int .i64 y2, .int .i64 (wrap64 (y3 + a2))] 43)) := hB.alloc hB.size _
      have hb2 : (wr.alloc (.cells #[.int .i64 y0, .string y1, .int .i64 y2, .int .i64 (wrap64 (y3 + a2))] 43)).heap[wr.heap.size]? = some (.cells #[.int .i64 y0, .string y1, .int .i64 y2, .int .i64 (wrap64 (y3 + a2))] 43 (0, 0)) := by
        show (wr.heap.push (.cells #[.int .i64 y0, .string y1, .int .i64 y2, .int .i64 (wrap64 (y3 + a2))] 43 (0, 0)))[wr.heap.size]? = _
        exact Array.getElem?_push_size
      have hW : Below wr.heap.size wr (wr.alloc (.cells #[.int .i64 y0, .string y1, .int .i64 y2, .int .i64 (wrap64 (y3 + a2))] 43)) := (Below.refl _ _).alloc (Nat.le_refl _) _
      have G0 := pw_cell_below hW g0
      have G1 := pw_cell_below hW g1
      have G2 := pw_cell_below hW g2
      have G3 := pw_cell_below hW g3
      clear g0 g1 g2 g3 h0 h1 h2 h3 hW hzw
      revert HQ
      have b0 := blk_cell hb2 0
      have b1 := blk_cell hb2 1
      have b2 := blk_cell hb2 2
      have b3 := blk_cell hb2 3
      simp only [List.getElem?_toArray, List.getElem?_cons_zero, List.getElem?_cons_succ] at b0 b1 b2 b3
      clear hb2
      revert hB2 G0 G1 G2 G3 b0 b1 b2 b3
      generalize (wr.alloc (.cells #[.int .i64 y0, .string y1, .int .i64 y2, .int .i64 (wrap64 (y3 + a2))] 43)) = W2
      unfold eqS
      simp only
      generalize wrap64 (y3 + a2) = z
      intro hB2 G0 G1 G2 G3 b0 b1 b2 b3 HQ
      go_cut [34] from 14 to 34 (fun v34 wx => v34 = .bool (!(x0 == y0 && (x1.toList == y1.toList && (x2 == y2 && (x3 == z))))) ∧ ∃ q, wx = W2.drewN q)
      case first =>
        go_quiet (fail)
        go_wp2_with fail
        go_meet
        exact ⟨by simp only [Bool.not_and], _, rfl⟩
      case rest =>
        obtain ⟨rfl, q, rfl⟩ := hcut
        clear G0 G1 G2 G3 b0 b1 b2 b3
        have hB3 := pw_below_drewN hB2 q
        revert HQ hB3
        generalize W2.drewN q = W3
        generalize (x0 == y0 && (x1.toList == y1.toList && (x2 == y2 && (x3 == z)))) = bb
        intro HQ hB3
        have q1 : IntKind.i64.wrap ((k : Int) + 1) = ((k + 1 : Nat) : Int) := by rw [w64x (by omega) (by omega)]; omega
        cases bb with
        | true =>
          go_wp2_with fail
          go_roundg (l0.length - (k + 1))
          case measure => omega
          case rel => exact ⟨k + 1, rfl, rfl, by omega, ⟨by rw [← HQ.out, Bool.true_and]⟩, hB3⟩
        | false =>
          have hq3 : Aside0 (sameB l0 l1 a2 = false) := ⟨by rw [← HQ.out, Bool.false_and]⟩
          go_wp2_with fail
          go_ret
          rw [hq3.out]
          exact ⟨rfl, hB3⟩
    · have hq2 : Aside0 (sameB l0 l1 a2 = true) := ⟨by
        rw [← hq.out, List.drop_of_length_le (by omega), List.drop_of_length_le (by omega)]
        rfl⟩
      go_wp2_with fail
      go_ret
      rw [hq2.out]
      exact ⟨rfl, hB⟩

def errataref17_Same.f (l0 l1 : List S43) (a2 : Int) : Option Bool := if l0.length ≤ 1000000 then some (sameB l0 l1 a2) else none
theorem errataref17_Same.calls (A0 : Option Addr) (c0 : Nat) (l0 : List S43) (A1 : Option Addr) (c1 : Nat) (l1 : List S43) (a2 : Int) (r : Bool) (w : World) (hr0 : Kd.C k43 w A0 l0.length l0) (hc0 : l0.length ≤ c0) (hr1 : Kd.C k43 w A1 l1.length l1) (hc1 : l1.length ≤ c1) (h : errataref17_Same.f l0 l1 a2 = some r) :
    Calls Tryd.prog 28 #[.slice A0 l0.length c0, .slice A1 l1.length c1, .int .i64 a2] w fun e w' => e = .returned (.bool r) ∧ Below w.heap.size w w' := by
  unfold errataref17_Same.f at h
  split at h
  · rename_i hl
    rw [← Option.some.inj h]
    by_cases hn : l0.length = l1.length
    · exact same_any A0 c0 l0 A1 c1 l1 a2 w hr0 hr1 hn hl
    · rw [sameB_len l0 l1 a2 hn]
      exact same_ne A0 c0 l0.length A1 c1 l1.length a2 w hn
  · cases h
end Go.Proofs.YtfefbnfmngdicaaDoor.PX
