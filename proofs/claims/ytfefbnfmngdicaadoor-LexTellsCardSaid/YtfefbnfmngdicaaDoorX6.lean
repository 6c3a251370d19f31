/- lex.part, walked by hand: whether a byte can be part of a word. -/
import Derived.Test.YtfefbnfmngdicaaDoorX1
namespace Go.Proofs.YtfefbnfmngdicaaDoor.PX
set_option linter.unusedVariables false
set_option linter.unusedSimpArgs false
open Go.RowKit Go.Proofs.YtfefbnfmngdicaaDoorW.PrintWords Go.Proofs.YtfefbnfmngdicaaDoorW.PrintLast Go.Proofs.YtfefbnfmngdicaaDoorW.PrintMore

/-- Can a byte be part of a word? -/
def ptI (x : Int) : Bool := x == 95 || (decide (48 ≤ x) && decide (x ≤ 57)) || (decide (97 ≤ bits BinOp.or IntKind.u8 x 32) && decide (bits BinOp.or IntKind.u8 x 32 ≤ 122))
set_option maxHeartbeats 2000000 in
set_option maxRecDepth 100000 in
theorem part_any (x : Int) (w : World) :
    Calls Tryd.prog 76 #[.int .u8 x] w fun e w' => e = .returned (.bool (ptI x)) ∧ w' = w := by
  go_enter Tryd.func76, Tryd.ntmps76
  go_wp2_with fail
  all_goals go_ret
  all_goals refine ⟨congrArg (fun b => Ending.returned (Value.bool b)) ?_, rfl⟩
  all_goals first
  | (rw [Bool.eq_iff_iff]; simp only [ptI, Bool.or_eq_true, Bool.and_eq_true, decide_eq_true_eq, beq_iff_eq]; omega)
  | (rw [Bool.eq_iff_iff]; simp only [ptI, Bool.or_eq_true, Bool.and_eq_true, decide_eq_true_eq, beq_iff_eq, true_iff, Bool.false_eq_true, false_iff]; omega)
  | (simp [ptI, *]; done)
end Go.Proofs.YtfefbnfmngdicaaDoor.PX
