/- Two gates: a cheap look ahead of a dear step (they change nothing). -/
import Derived.Test.YtfefbnfmngdicaaDoorWWords
import Derived.Test.YtfefbnfmngdicaaDoorWLast
import Derived.Test.YtfefbnfmngdicaaDoorWTab
import Derived.Test.YtfefbnfmngdicaaDoorWRepsOne
import Derived.Test.YtfefbnfmngdicaaDoorWGuard
import Derived.Laws.StructEq
namespace Go.Proofs.YtfefbnfmngdicaaDoor.PX
open Go.RowKit
variable {P : Program} {ops : Array Oper} {rest : List Oper} {o : Oper} {a : Act} {Q : Exit → Act → World → Prop} {W : World}
/-- The operation calls this function. -/
theorem gate_callee {f : FuncId} {as : Array Operand} {ts : Array TypeId} (_e : o.op = .call { callee := .value (.func f), args := as, argTypes := ts }) (h : wpList P ops Q (o :: rest) a W) : wpList P ops Q (o :: rest) a W := h
/-- The operation is this builtin. -/
theorem gate_builtin {b : Builtin} {xs : Array Operand} {ts : Array TypeId} (_e : o.op = .call { callee := .builtin b, args := xs, argTypes := ts }) (h : wpList P ops Q (o :: rest) a W) : wpList P ops Q (o :: rest) a W := h
/-- The smaller of two numbers. -/
def mn (a b : Int) : Int := if b < a then b else a
theorem min2_int (k k' : IntKind) (x y : Int) : Builtin.min2 (.int k x) (.int k' y) = pure (.int k (if y < x then y else x)) := by simp only [Builtin.min2]
theorem min_two (ats : Array TypeId) (ty : TypeId) (a b : Value) : Builtin.min_ ats ty #[a, b] = (Builtin.min2 a b >>= fun s => pure s) := by simp only [Builtin.min_, List.foldlM_cons, List.foldlM_nil]
end Go.Proofs.YtfefbnfmngdicaaDoor.PX
