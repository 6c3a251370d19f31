/- What a scanner is in memory; its method end, walked by hand. -/
import Derived.Test.YtfefbnfmngdicaaDoorPX0
import Derived.Test.YtfefbnfmngdicaaDoorBld
import Derived.Test.YtfefbnfmngdicaaDoorWMore
import Derived.WalkKit
import Derived.BigCall
import Derived.Outline
import Derived.StillTailTactics
import Derived.Deep.RegionLaw
namespace Go.Proofs.YtfefbnfmngdicaaDoor.PX
set_option linter.unusedVariables false
set_option linter.unusedSimpArgs false
open Go.RowKit Go.Proofs.YtfefbnfmngdicaaDoorW.PrintWords Go.Proofs.YtfefbnfmngdicaaDoorW.PrintLast Go.Proofs.YtfefbnfmngdicaaDoorW.PrintMore

theorem w64x {x : Int} (h0 : -9223372036854775808 ≤ x) (h1 : x ≤ 9223372036854775807) : IntKind.i64.wrap x = x := by
  rw [i64_w]; unfold wrap64; omega
/-- A scanner at block g: source, place, line, and the tokens so far in a row of the call's own. -/
def Sc (B g : Nat) (src : ByteArray) (i : Nat) (ln : Int) (ts : List S43) (w : World) : Prop :=
  B ≤ g ∧ B ≤ w.heap.size ∧ ∃ v, w.heap[g]? = some (.cells #[.string src, .int .i64 i, .int .i64 ln, v] 73 (0, 0)) ∧ Kd.R k43 43 w B (fun k => k ≠ g) v ts

theorem sc_row {B g : Nat} {src : ByteArray} {i : Nat} {ln : Int} {ts1 : List S43} {v v1 : Value} {w1 : World} (hBg : B ≤ g) (hBw : B ≤ w1.heap.size)
    (hb : w1.heap[g]? = some (.cells #[.string src, .int .i64 i, .int .i64 ln, v] 73 (0, 0))) (r : Kd.R k43 43 w1 B (fun k => k ≠ g) v1 ts1) (j : Nat) (u : Value) : Kd.R k43 43 (w1.setCell ⟨g, j, none⟩ u) B (fun k => k ≠ g) v1 ts1 :=
  Kd.R_set r hb (by intro q hq; have : q = 43 := by simpa [k43, Kd.iso, Kd.pair, Kd.int, Kd.string, Kd.scalar] using hq
                    omega) j u
theorem sc_put {B g : Nat} {src : ByteArray} {i : Nat} {ln : Int} {ts1 : List S43} {v v1 : Value} {w1 : World} (hBg : B ≤ g) (hBw : B ≤ w1.heap.size)
    (hb : w1.heap[g]? = some (.cells #[.string src, .int .i64 i, .int .i64 ln, v] 73 (0, 0))) (r : Kd.R k43 43 w1 B (fun k => k ≠ g) v1 ts1) : Sc B g src i ln ts1 (w1.setCell ⟨g, 3, none⟩ v1) :=
  ⟨hBg, by simpa using hBw, v1, blk_put hb 3 v1 rfl, sc_row hBg hBw hb r 3 v1⟩
theorem sc_at {B g : Nat} {src : ByteArray} {i : Nat} {ln : Int} {ts : List S43} {w : World} (h : Sc B g src i ln ts w) (j : Nat) : Sc B g src j ln ts (w.setCell ⟨g, 1, none⟩ (.int .i64 j)) := by
  obtain ⟨hBg, hBw, v, hb, r⟩ := h
  exact ⟨hBg, by simpa using hBw, v, blk_put hb 1 _ rfl, sc_row hBg hBw hb r 1 _⟩
theorem sc_ln {B g : Nat} {src : ByteArray} {i : Nat} {ln : Int} {ts : List S43} {w : World} (h : Sc B g src i ln ts w) (m : Int) : Sc B g src i m ts (w.setCell ⟨g, 2, none⟩ (.int .i64 m)) := by
  obtain ⟨hBg, hBw, v, hb, r⟩ := h
  exact ⟨hBg, by simpa using hBw, v, blk_put hb 2 _ rfl, sc_row hBg hBw hb r 2 _⟩

set_option maxHeartbeats 1000000 in
set_option maxRecDepth 100000 in
theorem end_any (B g : Nat) (src : ByteArray) (i : Nat) (ln : Int) (ts : List S43) (w : World) (h : Sc B g src i ln ts w) (hl : ts.length ≤ 1000000) :
    Calls Tryd.prog 75 #[.pointer (some ⟨g, 0, none⟩)] w fun e w' => e = .returned (.int .i64 0) ∧ Sc B g src i ln (ts ++ [(⟨5, ⟨#[]⟩, 0, ln⟩ : S43)]) w' ∧ Below B w w' := by
  obtain ⟨hBg, hBw, v, hb, hR⟩ := h
  obtain ⟨A, c, rfl⟩ := Kd.R_slice hR
  have c0 := blk_cell hb 0
  have c2 := blk_cell hb 2
  have c3 := blk_cell hb 3
  have f3 := blk_frozen hb 3
  simp only [List.getElem?_toArray, List.getElem?_cons_zero, List.getElem?_cons_succ] at c0 c2 c3
  go_enter Tryd.func75, Tryd.ntmps75
  go_wp2_with fail
  have hlt : g < w.heap.size := blk_lt hb
  go_region_law (refine Kd.R_append_step k43 (w0 := w) (W := w.drew) B (by rfl) (.tmp 7) (.tmp 13) 38 43 (.agg #[(.int .i64 0), (.string ⟨#[]⟩), (.int .i64 0), (.int .i64 0)]) 40 rfl Tryd.underlying38 info43 rfl (by decide) (by omega) (.slice A ts.length c) ts (⟨5, ⟨#[]⟩, 0, ln⟩ : S43) [.int .i64 5, .string ⟨#[]⟩, .int .i64 0, .int .i64 ln] (fun k => k ≠ g) (fun _ => False) rfl rfl (k43_mkM _ _ _ (⟨5, ⟨#[]⟩, 0, ln⟩ : S43)) (fun _ hk => hk.elim) (fun k hk => by have : w.drew.heap.size = w.heap.size := rfl; omega) (Kd.R_drew hR) (below_drew1 (Below.refl _ _)) hBw (by omega) ?_; intro v1 w1 r1 b1 g1 s1; obtain ⟨A1, d1, rfl⟩ := Kd.R_slice r1; have hb1 := blk_grown (w := w.drew) (g := g) (o := .cells #[.string src, .int .i64 i, .int .i64 ln, .slice A ts.length c] 73 (0, 0)) hb g1 (fun e => hR.1 g e.symm rfl); have e3 : w1.cell? ⟨g, 3, none⟩ = some (.slice A ts.length c) := blk_cell hb1 3; have f31 := blk_frozen hb1 3)
  all_goals go_wp2_with fail
  all_goals go_ret
  all_goals
    have r2 := r1
    rw [List.length_append, List.length_singleton] at r2
    exact ⟨rfl, sc_put hBg (by have := b1.size; omega) hb1 r2, b1.setCell (p := ⟨g, 3, none⟩) hBg _⟩
end Go.Proofs.YtfefbnfmngdicaaDoor.PX
