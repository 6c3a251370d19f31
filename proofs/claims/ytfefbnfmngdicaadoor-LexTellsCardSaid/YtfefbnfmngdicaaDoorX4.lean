/- The scanner's method operator, walked by hand: it takes the first operator of a list that stands here. -/
import Derived.Test.YtfefbnfmngdicaaDoorX3
namespace Go.Proofs.YtfefbnfmngdicaaDoor.PX
set_option linter.unusedVariables false
set_option linter.unusedSimpArgs false
open Go.RowKit Go.Proofs.YtfefbnfmngdicaaDoorW.PrintWords Go.Proofs.YtfefbnfmngdicaaDoorW.PrintLast Go.Proofs.YtfefbnfmngdicaaDoorW.PrintMore

def opl : List (List UInt8) := [[33, 61], [60, 61], [62, 61], [43, 43], [61], [60], [62], [43], [45], [42], [47], [37], [40], [41], [44], [46], [58], [63]]
def opF : List (List UInt8) → List UInt8 → Option (List UInt8)
  | [], _ => none
  | o :: r, l => if o.isPrefixOf l then some o else opF r l
def bs (l : List UInt8) : ByteArray := ⟨l.toArray⟩
/-- What operator takes. -/
def opR (src : ByteArray) (i : Nat) : Option (Nat × ByteArray) := (opF opl (src.data.toList.drop i)).map fun o => (i + o.length, bs o)
theorem opl_short : ∀ o ∈ opl, o.length ≤ 2 := by decide
def opCells : Array Value := (opl.map fun o => Value.string (bs o)).toArray
theorem has_pre (src : ByteArray) (i : Nat) (o : List UInt8) (b : Bool) (h : o.isPrefixOf (src.data.toList.drop i) = b) (w : World) :
    Calls Tryd.prog 105 #[.string (src.extract i src.size), .string (bs o)] w fun e w' => e = .returned (.bool b) ∧ w' = w := by
  refine (Tryd.strings_HasPrefix _ _ w).mono fun e w' ⟨he, hw⟩ => ⟨?_, hw⟩
  have hx : (src.extract i src.size).data.toList = src.data.toList.drop i := by
    rw [Lib.extract_data]
    exact List.take_of_length_le (by rw [List.length_drop, sz_toList]; exact Nat.le_refl _)
  rw [he, hx, ← h]
  rfl
theorem sc_alloc {B g : Nat} {src : ByteArray} {i : Nat} {ln : Int} {ts : List S43} {w : World} (h : Sc B g src i ln ts w) (o : Obj) : Sc B g src i ln ts (w.alloc o) :=
  sc_below h (below_alloc (Below.refl _ _) o)

set_option maxHeartbeats 2000000 in
set_option maxRecDepth 100000 in
theorem operator_any (B g : Nat) (src : ByteArray) (i : Nat) (ln : Int) (ts : List S43) (w : World) (h : Sc B g src i ln ts w) (hi : i < src.size) (hs : src.size ≤ 100000) (hl : ts.length ≤ 1000000) :
    Calls Tryd.prog 80 #[.pointer (some ⟨g, 0, none⟩)] w fun e w' => TakenBy B g src i ln ts 3 11 (opR src i) e w' ∧ Below B w w' := by
  have hBw0 := h.2.1
  go_enter Tryd.func80, Tryd.ntmps80
  go_wp2_with fail
  have hS0 := sc_alloc h (.cells opCells 9)
  have hB0 : Below B w (w.alloc (.cells opCells 9)) := (Below.refl B w).alloc hBw0 _
  have hb0 : (w.alloc (.cells opCells 9)).heap[w.heap.size]? = some (.cells opCells 9 (0, 0)) := by
    show (w.heap.push (.cells opCells 9 (0, 0)))[w.heap.size]? = _
    exact Array.getElem?_push_size
  change Code.wp _ _ _ _ (w.alloc (.cells opCells 9))
  generalize w.alloc (.cells opCells 9) = W0 at hS0 hB0 hb0
  go_loopg [7] 18 (fun n v7 wr => ∃ (k : Nat), n = 18 - k ∧ v7 = .int .i64 k ∧ k ≤ 18 ∧ Aside0 (opF (opl.drop k) (src.data.toList.drop i) = opF opl (src.data.toList.drop i)) ∧ Aside0 (Sc B g src i ln ts wr) ∧ Aside0 (wr.heap[w.heap.size]? = some (.cells opCells 9 (0, 0))) ∧ Below B w wr)
  case atStart => exact ⟨0, rfl, rfl, by omega, ⟨rfl⟩, ⟨hS0⟩, ⟨hb0⟩, hB0⟩
  case round =>
    clear hS0 hb0 hB0
    obtain ⟨k, rfl, rfl, hk, hq, hS0, hb0, hB0⟩ := hrel
    obtain ⟨hBg, hBw, v, hb, hR⟩ := hS0.out
    obtain ⟨A2, c2, rfl⟩ := Kd.R_slice hR
    have c0 : wr.cell? ⟨g, 0, none⟩ = some (.string src) := blk_cell hb 0
    have c1 : wr.cell? ⟨g, 1, none⟩ = some (.int .i64 i) := blk_cell hb 1
    have j0 : (0 : Int) ≤ (i : Int) := by omega
    have j1 : (i : Int) ≤ (src.size : Int) := by omega
    by_cases hlt : k < 18
    · have i0 : (0 : Int) ≤ (k : Int) := by omega
      have i1 : (k : Int) < 18 := by omega
      have hkl : k < opl.length := hlt
      have ck : wr.cell? ⟨w.heap.size, k, none⟩ = some (.string (bs opl[k])) := by
        have e : wr.cell? ⟨w.heap.size, k, none⟩ = opCells[k]? := blk_cell hb0.out k
        rw [e]
        show ((opl.map fun o => Value.string (bs o)).toArray)[k]? = _
        rw [List.getElem?_toArray, List.getElem?_map, List.getElem?_eq_getElem hkl]
        rfl
      have hd : opl.drop k = opl[k] :: opl.drop (k + 1) := List.drop_eq_getElem_cons hkl
      have hsh := opl_short opl[k] (List.getElem_mem hkl)
      revert ck hd hsh
      generalize opl[k] = o
      intro ck hd hsh
      cases hp : o.isPrefixOf (src.data.toList.drop i) with
      | false =>
        have hq2 : Aside0 (opF (opl.drop (k + 1)) (src.data.toList.drop i) = opF opl (src.data.toList.drop i)) := ⟨by
          rw [← hq.out, hd, opF, hp, if_neg (by decide)]⟩
        have hp2 := Aside0.mk hp
        have q1 : IntKind.i64.wrap ((k : Int) + 1) = ((k + 1 : Nat) : Int) := by rw [w64x (by omega) (by omega)]; omega
        clear hp hd
        go_wp2_with fail
        go_quiet ((go_at_call 105; refine (has_pre _ _ _ _ hp2.out _).mono ?_; rintro e w' ⟨rfl, rfl⟩; exact ⟨rfl, _, rfl⟩))
        go_wp2_with fail
        go_roundg (18 - (k + 1))
        case measure => omega
        case rel => exact ⟨k + 1, rfl, rfl, by omega, hq2, ⟨sc_drewN hS0.out _⟩, ⟨blk_drewN hb0.out _⟩, below_drewN' hB0 _⟩
      | true =>
        have hq2 : Aside0 (opR src i = some (i + o.length, bs o)) := ⟨by
          unfold opR
          rw [← hq.out, hd, opF, hp, if_pos rfl]
          rfl⟩
        have hp2 := Aside0.mk hp
        have hts : (bs o).size = o.length := by unfold bs; rw [ByteArray.size, List.size_toArray]
        have q1 : IntKind.i64.wrap ((i : Int) + ((bs o).size : Int)) = ((i + o.length : Nat) : Int) := by rw [w64x (by omega) (by omega)]; omega
        clear hp hd
        go_wp2_with fail
        go_quiet ((go_at_call 105; refine (has_pre _ _ _ _ hp2.out _).mono ?_; rintro e w' ⟨rfl, rfl⟩; exact ⟨rfl, _, rfl⟩))
        go_wp2_with fail
        have hS3 := sc_drewN hS0.out nq
        have hB3 := below_drewN' hB0 nq
        revert hS3 hB3 q1 hq2
        clear ck c0 c1 hR hb hp2 hq hts
        generalize wr.drewN nq = W
        generalize bs o = t
        intro hq2 q1 hS3 hB3
        obtain ⟨_, hBw3, v3, hb3, hR3⟩ := hS3
        obtain ⟨A3, c3, rfl⟩ := Kd.R_slice hR3
        have d1' : W.cell? ⟨g, 1, none⟩ = some (.int .i64 i) := blk_cell hb3 1
        have d2 : W.cell? ⟨g, 2, none⟩ = some (.int .i64 ln) := blk_cell hb3 2
        have d3 : W.cell? ⟨g, 3, none⟩ = some (.slice A3 ts.length c3) := blk_cell hb3 3
        have hlt3 : g < W.heap.size := blk_lt hb3
        go_region_law (refine Kd.R_append_step k43 (w0 := W) (W := W.drew) B (by rfl) (.tmp 27) (.tmp 34) 38 43 (.agg #[(.int .i64 0), (.string ⟨#[]⟩), (.int .i64 0), (.int .i64 0)]) 40 rfl Tryd.underlying38 info43 rfl (by decide) (by omega) (.slice A3 ts.length c3) ts (⟨3, t, 0, ln⟩ : S43) [.int .i64 3, .string t, .int .i64 0, .int .i64 ln] (fun k => k ≠ g) (fun _ => False) rfl rfl (k43_mkM _ _ _ (⟨3, t, 0, ln⟩ : S43)) (fun _ hk => hk.elim) (fun k hk => by have : W.drew.heap.size = W.heap.size := rfl; omega) (Kd.R_drew hR3) (below_drew1 (Below.refl _ _)) hBw3 (by omega) ?_; intro v1 w1 r1 b1 g1 s1; obtain ⟨A1, d1, rfl⟩ := Kd.R_slice r1; have hb1 := blk_grown (w := W.drew) (g := g) (o := .cells #[.string src, .int .i64 i, .int .i64 ln, .slice A3 ts.length c3] 73 (0, 0)) hb3 g1 (fun e => hR3.1 g e.symm rfl); have e1 : w1.cell? ⟨g, 1, none⟩ = some (.int .i64 i) := blk_cell hb1 1; have e2 : w1.cell? ⟨g, 2, none⟩ = some (.int .i64 ln) := blk_cell hb1 2; have e3 : w1.cell? ⟨g, 3, none⟩ = some (.slice A3 ts.length c3) := blk_cell hb1 3; have f31 := blk_frozen hb1 3; have f11 := blk_frozen hb1 1)
        all_goals go_wp2_with fail
        all_goals go_ret
        all_goals
          have r2 := r1
          rw [List.length_append, List.length_singleton] at r2
          rw [hq2.out]
          exact ⟨⟨rfl, sc_at (sc_put hBg (by have := b1.size; omega) hb1 r2) (i + o.length)⟩, ((hB3.trans b1).setCell (p := ⟨g, 3, none⟩) hBg _).setCell (p := ⟨g, 1, none⟩) hBg _⟩
    · have hk18 : k = 18 := by omega
      have hq2 : Aside0 (opR src i = none) := ⟨by
        unfold opR
        rw [← hq.out, hk18]
        rfl⟩
      have i1 : ¬ (k : Int) < 18 := by omega
      go_wp2_with fail
      go_ret
      rw [hq2.out]
      exact ⟨⟨rfl, hS0.out⟩, hB0⟩
end Go.Proofs.YtfefbnfmngdicaaDoor.PX
