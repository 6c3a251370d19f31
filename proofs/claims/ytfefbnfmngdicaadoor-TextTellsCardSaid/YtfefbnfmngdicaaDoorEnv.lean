/- What the rows list of package-level variables, as the contracts ask it of a world; and that it goes on holding whatever a call makes above. -/
import Derived.Test.YtfefbnfmngdicaaDoorProg
import Derived.Lib.ItoaNum
import Derived.Lib.LaidTab
import Derived.Below
namespace Go.Proofs.YtfefbnfmngdicaaDoor.PX
set_option linter.unusedVariables false
set_option linter.unusedSimpArgs false
open Go.RowKit

structure Env (w : World) : Prop where
  pow : Lib.TabIs Tryd.prog w "internal/strconv.uint64pow10" .u64 Lib.pow10Tab
  syn : ∃ tp p, w.var? Tryd.prog "strconv.ErrSyntax" = some #[.iface tp p]
  rng : ∃ tp p, w.var? Tryd.prog "strconv.ErrRange" = some #[.iface tp p]
  max : ∃ m : Int, w.cell? ⟨0, 0, none⟩ = some (.int .i64 m)

theorem var_below {P : Program} {w w' : World} {n : String} {cs : Array Value} (hb : Below w.heap.size w w') (h : w.var? P n = some cs) : w'.var? P n = some cs := by
  unfold World.var? at *
  cases hg : P.globalNamed n with
  | none => simp [hg] at h
  | some g =>
    simp only [hg, Option.bind_some] at h ⊢
    have hlt : g < w.heap.size := by
      rcases Nat.lt_or_ge g w.heap.size with h' | h'
      · exact h'
      · rw [Array.getElem?_eq_none h'] at h; simp at h
    rw [hb.block g hlt]
    exact h

theorem envB {w w' : World} (h : Env w) (hb : Below w.heap.size w w') : Env w' where
  pow := var_below hb h.pow
  syn := let ⟨tp, p, e⟩ := h.syn; ⟨tp, p, var_below hb e⟩
  rng := let ⟨tp, p, e⟩ := h.rng; ⟨tp, p, var_below hb e⟩
  max := let ⟨m, e⟩ := h.max; ⟨m, (hb.cell (World.block_lt_of_cell? w _ e)).trans e⟩
end Go.Proofs.YtfefbnfmngdicaaDoor.PX
