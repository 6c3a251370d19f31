/- The scanner's method feed, walked by hand. -/
import Derived.Test.YtfefbnfmngdicaaDoorX1
namespace Go.Proofs.YtfefbnfmngdicaaDoor.PX
set_option linter.unusedVariables false
set_option linter.unusedSimpArgs false
open Go.RowKit Go.Proofs.YtfefbnfmngdicaaDoorW.PrintWords Go.Proofs.YtfefbnfmngdicaaDoorW.PrintLast Go.Proofs.YtfefbnfmngdicaaDoorW.PrintMore

set_option maxHeartbeats 2000000 in
set_option maxRecDepth 100000 in
theorem feed_any (B g : Nat) (src : ByteArray) (i : Nat) (ln : Int) (ts : List S43) (w : World) (h : Sc B g src i ln ts w) (hl : ts.length ≤ 1000000) (hi : i ≤ 1000000) (hln : 0 ≤ ln ∧ ln ≤ 1000000) :
    Calls Tryd.prog 79 #[.pointer (some ⟨g, 0, none⟩)] w fun e w' => e = .returned (.int .i64 0) ∧ Sc B g src (i + 1) (ln + 1) (ts ++ [(⟨4, ⟨#[]⟩, 0, ln⟩ : S43)]) w' ∧ Below B w w' := by
  obtain ⟨hBg, hBw, v, hb, hR⟩ := h
  obtain ⟨A, c, rfl⟩ := Kd.R_slice hR
  have c1 : w.cell? ⟨g, 1, none⟩ = some (.int .i64 i) := blk_cell hb 1
  have c2 : w.cell? ⟨g, 2, none⟩ = some (.int .i64 ln) := blk_cell hb 2
  have c3 : w.cell? ⟨g, 3, none⟩ = some (.slice A ts.length c) := blk_cell hb 3
  have hlt : g < w.heap.size := blk_lt hb
  have q1 : IntKind.i64.wrap ((i : Int) + 1) = (i : Int) + 1 := w64x (by omega) (by omega)
  have q2 : IntKind.i64.wrap (ln + 1) = ln + 1 := w64x (by omega) (by omega)
  go_enter Tryd.func79, Tryd.ntmps79
  go_wp2_with fail
  go_cut [] (fun wc => Sc B g src (i + 1) ln (ts ++ [(⟨4, ⟨#[]⟩, 0, ln⟩ : S43)]) wc ∧ Below B w wc)
  case first =>
    go_region_law (refine Kd.R_append_step k43 (w0 := w) (W := w.drew) B (by rfl) (.tmp 8) (.tmp 14) 38 43 (.agg #[(.int .i64 0), (.string ⟨#[]⟩), (.int .i64 0), (.int .i64 0)]) 40 rfl Tryd.underlying38 info43 rfl (by decide) (by omega) (.slice A ts.length c) ts (⟨4, ⟨#[]⟩, 0, ln⟩ : S43) [.int .i64 4, .string ⟨#[]⟩, .int .i64 0, .int .i64 ln] (fun k => k ≠ g) (fun _ => False) rfl rfl (k43_mkM _ _ _ (⟨4, ⟨#[]⟩, 0, ln⟩ : S43)) (fun _ hk => hk.elim) (fun k hk => by have : w.drew.heap.size = w.heap.size := rfl; omega) (Kd.R_drew hR) (below_drew1 (Below.refl _ _)) hBw (by omega) ?_; intro v1 w1 r1 b1 g1 s1; obtain ⟨A1, d1, rfl⟩ := Kd.R_slice r1; have hb1 := blk_grown (w := w.drew) (g := g) (o := .cells #[.string src, .int .i64 i, .int .i64 ln, .slice A ts.length c] 73 (0, 0)) hb g1 (fun e => hR.1 g e.symm rfl); have e1 : w1.cell? ⟨g, 1, none⟩ = some (.int .i64 i) := blk_cell hb1 1; have e3 : w1.cell? ⟨g, 3, none⟩ = some (.slice A ts.length c) := blk_cell hb1 3; have f31 := blk_frozen hb1 3; have f11 := blk_frozen hb1 1; have e2 : w1.cell? ⟨g, 2, none⟩ = some (.int .i64 ln) := blk_cell hb1 2; have f21 := blk_frozen hb1 2)
    all_goals go_wp2_with fail
    all_goals go_meet
    all_goals
      have r2 := r1
      rw [List.length_append, List.length_singleton] at r2
      exact ⟨sc_at (sc_put hBg (by have := b1.size; omega) hb1 r2) (i + 1), (b1.setCell (p := ⟨g, 3, none⟩) hBg _).setCell (p := ⟨g, 1, none⟩) hBg _⟩
  case rest =>
    obtain ⟨⟨_, hBw2, v2, hb2, hR2⟩, b2⟩ := hcut
    have d2 : wc.cell? ⟨g, 2, none⟩ = some (.int .i64 ln) := blk_cell hb2 2
    have f2 := blk_frozen hb2 2
    go_wp2_with fail
    go_ret
    exact ⟨rfl, sc_ln ⟨hBg, hBw2, v2, hb2, hR2⟩ (ln + 1), b2.setCell (p := ⟨g, 2, none⟩) hBg _⟩
end Go.Proofs.YtfefbnfmngdicaaDoor.PX
